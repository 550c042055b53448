/- Operations on words by terms: contracts. Conditions: the term is good, and its kids are constants. -/
import Derived.Test.YtfjkpndogncdcaaGreatDoorTermV
import Derived.Test.YtfjkpndogncdcaaGreatDoorRg
namespace Vg
open Go Go.Proofs
set_option maxRecDepth 100000
set_option maxHeartbeats 40000000
theorem qff {w a low n : Int} (h : wordP w a = false) : v8 w a low n = -1 := if_neg fun k => by rw [k.1] at h; cases h
theorem qfe {w a low n : Int} (h : ¬ (0 <= low /\ 1 <= n /\ n <= w - low)) : v8 w a low n = -1 := if_neg fun k => h k.2
theorem qfd {w a low n : Int} (h : wordP w a = true) (h2 : 0 <= low /\ 1 <= n /\ n <= w - low) : v8 w a low n = k9 n (Int.fdiv a (2 ^ min low.toNat IntKind.i64.bits)) := if_pos ⟨h, h2⟩
theorem qc9 {w a v b : Int} (h : wordP w a = false) : eB w a v b = -1 := if_neg fun k => by rw [k.1] at h; cases h
theorem qc8 {w a v b : Int} (h : wordP v b = false) : eB w a v b = -1 := if_neg fun k => by rw [k.2.1] at h; cases h
theorem qc7 {w a v b : Int} (h : ¬ w + v <= 16) : eB w a v b = -1 := if_neg fun k => h k.2.2
theorem qc6 {w a v b : Int} (ha : wordP w a = true) (hb : wordP v b = true) (h : w + v <= 16) : IntKind.i64.wrap (IntKind.i64.wrap (a * 2 ^ min v.toNat IntKind.i64.bits) + b) = eB w a v b := by
  obtain ⟨hw, a0, a1⟩ := p4 ha
  obtain ⟨hv, b0, b1⟩ := p4 hb
  have w1 := yE hw
  have v1 := yE hv
  have em : min v.toNat IntKind.i64.bits = v.toNat := by
    have : IntKind.i64.bits = 64 := rfl
    omega
  have hp : (0 : Int) < 2 ^ v.toNat := Int.pow_pos (by decide)
  have h1 : a * 2 ^ v.toNat <= 2 ^ w.toNat * 2 ^ v.toNat := Int.mul_le_mul_of_nonneg_right omG omG
  have h2 : (2 : Int) ^ w.toNat * 2 ^ v.toNat = 2 ^ (w + v).toNat := by
    rw [<- Int.pow_add]
    congr 1
    omega
  have h3 : (2 : Int) ^ (w + v).toNat <= 65536 := (wf (w := w + v) (by simp [inP]; omega)).s2
  have h4 : (2 : Int) ^ v.toNat <= 65536 := (wf hv).s2
  have h0 : 0 <= a * 2 ^ v.toNat := Int.mul_nonneg a0 omG
  rw [em, j2 (n := a * 2 ^ v.toNat) omG omG, j2 omG omG]
  unfold eB
  rw [if_pos ⟨ha, hb, h⟩]
theorem yY {w a n : Int} {s : Bool} (h : wordP w a = false) : d9 w a n s = -1 := if_neg fun k => by rw [k.1] at h; cases h
theorem xY {w a n : Int} {s : Bool} (h : ¬ (w <= n /\ n <= 16)) : d9 w a n s = -1 := if_neg fun k => h k.2
theorem wid_T {w a n : Int} {s : Bool} (h : wordP w a = true) (h2 : w <= n /\ n <= 16) (hs : s = true) : d9 w a n s = k9 n (r7 w a) := by unfold d9; rw [if_pos ⟨h, h2⟩, if_pos hs]
theorem wid_F {w a n : Int} {s : Bool} (h : wordP w a = true) (h2 : w <= n /\ n <= 16) (hs : s = false) : d9 w a n s = a := by unfold d9; rw [if_pos ⟨h, h2⟩, if_neg (by rw [hs]; decide)]
theorem qi4 (w a low n : Int) (hl : low <= 1048576) : CallsV Tryz.prog 146 [.dat (.i w), .dat (.i a), .dat (.i low), .dat (.i n)] (.dat (.i (v8 w a low n))) := by
  refine oV Tryz.func146 ⟨?_⟩
  repeat' (first | ((with_reducible refine fun (K1 : KT) hK => ?_); refine a7 ⟨?_⟩) | ((with_reducible show K1 _ _); subst hK; conv => whnf) | refine st0 ⟨?_⟩ | ((with_reducible refine SplS.mk (fun h => ?_) (fun h => ?_)) <;> first | exact s5 | (subst h; conv => whnf) | (conv => whnf)) | refine s1 ⟨?_⟩ ⟨?_⟩ | refine vP (sF ..) ⟨?_⟩ | refine vP (yI ..) ⟨?_⟩ | fail)
  all_goals repeat clear hK K1
  all_goals first | exact di_eq (qff asmR) | (have ha := (show wordP w a = true by with_reducible assumption); have hw := yE (p4 ha).1; (try simp only [j2 (n := w - n) omG omG] at *); first | omega | exact di_eq (qfe omG) | exact di_eq (qfd ha omG)) | skip
theorem qdz (w a low n : Int) (hl : low <= 1048576) : CallsV Tryz.prog 154 [.dat (.i w), .dat (.i a), .dat (.i low), .dat (.i n)] (.dat (.i (v8 w a low n))) := by
  refine oV Tryz.func154 ⟨?_⟩
  repeat' (first | ((with_reducible refine fun (K1 : KT) hK => ?_); refine a7 ⟨?_⟩) | ((with_reducible show K1 _ _); subst hK; conv => whnf) | refine st0 ⟨?_⟩ | ((with_reducible refine SplS.mk (fun h => ?_) (fun h => ?_)) <;> first | exact s5 | (subst h; conv => whnf) | (conv => whnf)) | refine s1 ⟨?_⟩ ⟨?_⟩ | refine vP (wD ..) ⟨?_⟩ | fail)
  all_goals repeat clear hK K1
  all_goals first | exact di_eq (qff asmR) | (have ha := (show wordP w a = true by with_reducible assumption); have hw := yE (p4 ha).1; (try simp only [j2 (n := w - low) omG omG] at *); first | (rw [tO omG omG]; omega) | exact di_eq (qfe omG) | (have hn : inP n 1 16 = true := (by simp [inP]; omega); refine di_eq ?_; rw [qfd ha omG, tS hn, uw hn, tO (n := low) omG omG])) | skip
theorem qi1 (w a v b : Int) : CallsV Tryz.prog 145 [.dat (.i w), .dat (.i a), .dat (.i v), .dat (.i b)] (.dat (.i (eB w a v b))) := by
  refine oV Tryz.func145 ⟨?_⟩
  repeat' (first | ((with_reducible refine fun (K1 : KT) hK => ?_); refine a7 ⟨?_⟩) | ((with_reducible show K1 _ _); subst hK; conv => whnf) | refine st0 ⟨?_⟩ | ((with_reducible refine SplS.mk (fun h => ?_) (fun h => ?_)) <;> first | exact s5 | (subst h; conv => whnf) | (conv => whnf)) | refine s1 ⟨?_⟩ ⟨?_⟩ | refine vP (sF ..) ⟨?_⟩ | fail)
  all_goals repeat clear hK K1
  all_goals first | exact di_eq (qc9 asmR) | exact di_eq (qc8 asmR) | (have ha := (show wordP w a = true by with_reducible assumption); have hb := (show wordP v b = true by with_reducible assumption); have hw := yE (p4 ha).1; have hv := yE (p4 hb).1; (try simp only [j2 (n := w + v) omG omG] at *); first | omega | exact di_eq (qc7 omG) | exact di_eq (qc6 ha hb omG).symm) | skip
theorem qdu (w a v b : Int) : CallsV Tryz.prog 156 [.dat (.i w), .dat (.i a), .dat (.i v), .dat (.i b)] (.dat (.i (eB w a v b))) := by
  refine oV Tryz.func156 ⟨?_⟩
  repeat' (first | ((with_reducible refine fun (K1 : KT) hK => ?_); refine a7 ⟨?_⟩) | ((with_reducible show K1 _ _); subst hK; conv => whnf) | refine st0 ⟨?_⟩ | ((with_reducible refine SplS.mk (fun h => ?_) (fun h => ?_)) <;> first | exact s5 | (subst h; conv => whnf) | (conv => whnf)) | refine s1 ⟨?_⟩ ⟨?_⟩ | refine vP (wD ..) ⟨?_⟩ | fail)
  all_goals repeat clear hK K1
  all_goals first | exact di_eq (qc9 asmR) | exact di_eq (qc8 asmR) | (have ha := (show wordP w a = true by with_reducible assumption); have hb := (show wordP v b = true by with_reducible assumption); have hw := yE (p4 ha).1; have hv := yE (p4 hb).1; (try simp only [j2 (n := w + v) omG omG] at *); first | (rw [uw (p4 hb).1]; omega) | exact di_eq (qc7 omG) | (refine di_eq ?_; rw [uw (p4 hb).1]; exact (qc6 ha hb omG).symm)) | skip
theorem qir (w a n : Int) (s : Bool) : CallsV Tryz.prog 147 [.dat (.i w), .dat (.i a), .dat (.i n), .dat (.bool s)] (.dat (.i (d9 w a n s))) := by
  refine oV Tryz.func147 ⟨?_⟩
  repeat' (first | ((with_reducible refine fun (K1 : KT) hK => ?_); refine a7 ⟨?_⟩) | ((with_reducible show K1 _ _); subst hK; conv => whnf) | refine st0 ⟨?_⟩ | ((with_reducible refine SplS.mk (fun h => ?_) (fun h => ?_)) <;> first | exact s5 | ((fail_if_success (have _x : @Eq Bool _ _ := h)); subst h; conv => whnf) | (conv => whnf)) | refine vP (sF ..) ⟨?_⟩ | refine vP (yI ..) ⟨?_⟩ | refine vP (qau ..) ⟨?_⟩ | fail)
  all_goals repeat clear hK K1
  all_goals first | exact di_eq (yY asmR) | exact di_eq (xY omG) | exact di_eq (wid_T asmR omG asmR) | exact di_eq (wid_F asmR omG asmR) | skip
theorem qdr (w a n : Int) (s : Bool) : CallsV Tryz.prog 155 [.dat (.i w), .dat (.i a), .dat (.i n), .dat (.bool s)] (.dat (.i (d9 w a n s))) := by
  refine oV Tryz.func155 ⟨?_⟩
  repeat' (first | ((with_reducible refine fun (K1 : KT) hK => ?_); refine a7 ⟨?_⟩) | ((with_reducible show K1 _ _); subst hK; conv => whnf) | refine st0 ⟨?_⟩ | ((with_reducible refine SplS.mk (fun h => ?_) (fun h => ?_)) <;> first | exact s5 | ((fail_if_success (have _x : @Eq Bool _ _ := h)); subst h; conv => whnf) | (conv => whnf)) | refine vP (wD ..) ⟨?_⟩ | refine vP (kL ..) ⟨?_⟩ | refine vP (dR ..) ⟨?_⟩ | refine vP (eW ..) ⟨?_⟩ | fail)
  all_goals repeat clear hK K1
  all_goals first | exact di_eq (yY asmR) | (simp only [inP, Bool.and_eq_true, Bool.and_eq_false_iff, decide_eq_true_eq, decide_eq_false_iff_not] at *; first | exact di_eq (xY (by have := yE (p4 (show wordP w a = true by with_reducible assumption)).1; omega)) | exact di_eq (wid_T asmR omG asmR) | exact di_eq (wid_F asmR omG asmR)) | skip
theorem i_evC (op w n : Int) (nm : ByteArray) (ks : List V.Term) (ho : op = 0) : CallsV Tryz.prog 119 [.agg [.dat (.i op), .dat (.i w), .dat (.i n), .dat (.str nm), .dat (.seq .terms ks)], .nilm] (.dat (.i n)) := by
  refine oV Tryz.func119 ⟨?_⟩
  repeat' (first | ((with_reducible refine fun (K1 : KT) hK => ?_); refine a7 ⟨?_⟩) | ((with_reducible show K1 _ _); subst hK; conv => whnf) | refine st0 ⟨?_⟩ | ((with_reducible refine SplS.mk (fun h => ?_) (fun h => ?_)) <;> first | exact m4 | (subst h; conv => whnf) | (conv => whnf)))
  all_goals repeat clear hK K1
  all_goals first | rfl | contradiction | skip
section
variable {t : V.Term} {x : List Int}
theorem ap_u (ht : okT t = true) (ho : t.op = 1 \/ t.op = 2) : m6 t x = p7 t.op t.w (xAt x 0) := by unfold m6; rw [if_pos ho, cF ht ho]
theorem ap_b (ho : 3 <= t.op /\ t.op <= 16) : m6 t x = r3 t.op (k0 t).w (xAt x 0) (xAt x 1) := by unfold m6; rw [if_neg omG, if_pos ho]
theorem ap_i1 (ho : t.op = 17) (h : x.getD (Int.toNat 0) K.ints.dflt = 1) : m6 t x = xAt x 1 := by unfold m6; rw [if_neg omG, if_neg omG, if_pos ho]; exact if_pos h
theorem ap_i2 (ho : t.op = 17) (h : ¬ x.getD (Int.toNat 0) K.ints.dflt = 1) : m6 t x = xAt x 2 := by unfold m6; rw [if_neg omG, if_neg omG, if_pos ho]; exact if_neg h
theorem ap_j (ho : t.op = 18) : m6 t x = eB (k0 t).w (xAt x 0) (k1 t).w (xAt x 1) := by unfold m6; rw [if_neg omG, if_neg omG, if_neg omG, if_pos ho]
theorem ap_c (ho : t.op = 19) : m6 t x = v8 (k0 t).w (xAt x 0) t.n t.w := by unfold m6; rw [if_neg omG, if_neg omG, if_neg omG, if_neg omG, if_pos ho]
theorem ap_g (ho : t.op = 20 \/ t.op = 21) : m6 t x = d9 (k0 t).w (xAt x 0) t.w (t.op == 21) := by unfold m6; rw [if_neg omG, if_neg omG, if_neg omG, if_neg omG, if_neg omG]
theorem tD (ks : List V.Term) (i : Nat) : xAt (nums ks) i = (kAt ks i).n := by
  unfold xAt nums kAt
  rw [List.getD_eq_getElem?_getD, List.getD_eq_getElem?_getD, List.getElem?_map]
  cases ks[i]? <;> rfl
theorem kS {ks : List V.Term} {i : Nat} (h : y4 ks = true) (hi : i < ks.length) : (kAt ks i).op = 0 := by
  have e : kAt ks i = ks[i] := by rw [kAt, List.getD_eq_getElem?_getD, List.getElem?_eq_getElem hi]; rfl
  rw [e]
  exact of_decide_eq_true (List.all_eq_true.1 h _ (List.getElem_mem hi))
theorem cut_n (ht : okT t = true) (ho : t.op = 19) : t.n <= 1048576 := by
  have h1 := nB ht ho
  have h2 := d8 (ok0 ht omG)
  have h3 := d8 ht
  omega
end
theorem iG {a b : Int} (h : a = b) : Dat.i b = Dat.int .i64 a := congrArg Dat.i h.symm
theorem eH {a b : Int} (h : a = b) : AV.dat (Dat.int .i64 a) = AV.dat (Dat.i b) := by rw [h]
section
variable {t : V.Term}
theorem va_u (ht : okT t = true) (ho : t.op = 1 \/ t.op = 2) : p7 t.op (k0 t).w (k0 t).n = m6 t (nums t.kids) := by rw [ap_u ht ho, tD, cF ht ho]
theorem va_b (ho : 3 <= t.op /\ t.op <= 16) : r3 t.op (k0 t).w (k0 t).n (k1 t).n = m6 t (nums t.kids) := by rw [ap_b ho, tD, tD]
theorem va_i1 (ho : t.op = 17) (h : (t.kids.getD (Int.toNat 0) K.terms.dflt).n = 1) : (k1 t).n = m6 t (nums t.kids) := by rw [ap_i1 ho ((tD t.kids 0).trans h), tD]
theorem va_i2 (ho : t.op = 17) (h : ¬ (t.kids.getD (Int.toNat 0) K.terms.dflt).n = 1) : (k2 t).n = m6 t (nums t.kids) := by rw [ap_i2 ho (fun e => h ((tD t.kids 0).symm.trans e)), tD]
theorem va_j (ho : t.op = 18) : eB (k0 t).w (k0 t).n (k1 t).w (k1 t).n = m6 t (nums t.kids) := by rw [ap_j ho, tD, tD]
theorem va_c (ho : t.op = 19) : v8 (k0 t).w (k0 t).n t.n t.w = m6 t (nums t.kids) := by rw [ap_c ho, tD]
theorem va_g (ho : t.op = 20 \/ t.op = 21) : d9 (k0 t).w (k0 t).n t.w (t.op == 21) = m6 t (nums t.kids) := by rw [ap_g ho, tD]
end
theorem qas (t : V.Term) (x : List Int) (ht : okT t = true) (ho : 1 <= t.op /\ t.op <= 21) (hx : x.length = t.kids.length) : CallsV Tryz.prog 115 [.agg [.dat (.i t.op), .dat (.i t.w), .dat (.i t.n), .dat (.str t.name), .dat (.seq .terms t.kids)], .dat (.seq .ints x)] (.dat (.i (m6 t x))) := by
  refine oV Tryz.func115 ⟨?_⟩
  repeat' (first | ((with_reducible refine fun (K1 : KT) hK => ?_); refine a7 ⟨?_⟩) | ((with_reducible show K1 _ _); subst hK; conv => whnf) | refine st0 ⟨?_⟩ | ((with_reducible refine SplS.mk (fun h => ?_) (fun h => ?_)) <;> first | exact s5 | (subst h; conv => whnf) | (conv => whnf)) | refine s1 ⟨?_⟩ ⟨?_⟩ | refine vP (tA ..) ⟨?_⟩ | refine vE (qaz ..) ⟨?_⟩ | refine vE (wP ..) ⟨?_⟩ | refine vE (qi1 ..) ⟨?_⟩ | refine vE (qi4 (hl := ?_) ..) ⟨?_⟩ | refine vE (qir ..) ⟨?_⟩ | fail)
  all_goals repeat clear hK K1
  all_goals (simp only [inP, Bool.and_eq_true, Bool.and_eq_false_iff, decide_eq_true_eq, decide_eq_false_iff_not] at *; have l1 := lD ht; have l2 := jC ht; have l3 := tB ht; first | omega | exact cut_n ht omG | exact di_eq (ap_u ht omG) | exact di_eq (ap_b omG) | exact di_eq (ap_i1 omG asmR) | exact di_eq (ap_i2 omG asmR) | exact di_eq (ap_j omG) | exact di_eq (ap_c omG) | exact di_eq (ap_g omG) | skip)
theorem i_evA (t : V.Term) (ht : okT t = true) (ho : 1 <= t.op /\ t.op <= 21) (hc : y4 t.kids = true) : CallsV Tryz.prog 119 [.agg [.dat (.i t.op), .dat (.i t.w), .dat (.i t.n), .dat (.str t.name), .dat (.seq .terms t.kids)], .nilm] (.dat (.i (m6 t (nums t.kids)))) := by
  refine oV Tryz.func119 ⟨?_⟩
  repeat' (first | ((with_reducible refine fun (K1 : KT) hK => ?_); refine a7 ⟨?_⟩) | ((with_reducible show K1 _ _); subst hK; conv => whnf) | refine st0 ⟨?_⟩ | ((with_reducible refine SplS.mk (fun h => ?_) (fun h => ?_)) <;> first | exact m4 | (subst h; conv => whnf) | (conv => whnf)) | refine s1 ⟨?_⟩ ⟨?_⟩ | refine vP (i_evC (ho := ?_) ..) ⟨?_⟩ | refine vP (qd1 ..) ⟨?_⟩ | refine vP (qdz (hl := ?_) ..) ⟨?_⟩ | refine vP (qdr ..) ⟨?_⟩ | refine vP (qdu ..) ⟨?_⟩ | refine vP (iR ..) ⟨?_⟩ | fail)
  all_goals repeat clear hK K1
  all_goals (have l1 := lD ht; have l2 := jC ht; have l3 := tB ht; first | omega | exact cut_n ht omG | exact kS hc (i := 0) omG | exact kS hc (i := 1) omG | exact kS hc (i := 2) omG | exact iG  (va_u ht omG) | exact iG  (va_b omG) | exact iG  (va_i1 omG asmR) | exact iG  (va_i2 omG asmR) | exact iG  (va_j omG) | exact iG  (va_c omG) | exact iG  (va_g omG) | skip)
def s4 (t : V.Term) : AV := .agg [.dat (.i t.op), .dat (.i t.w), .dat (.i t.n), .dat (.str t.name), .dat (.seq .terms t.kids)]
theorem st_eq {K : AX -> AState -> Prop} {n : Nat} {tm tm' : Nat -> AV} {blk blk' : Nat -> Option Blk} (key : K .normal ⟨n, tm, blk⟩) (h1 : ∀ j, tm j = tm' j) (h2 : ∀ j, blk j = blk' j) : K .normal ⟨n, tm', blk'⟩ := by
  rw [<- funext h1, <- funext h2]; exact key
structure Fr (p : Prop) : Prop where
  h : p
theorem y7 {B : List Blk} {y : Int} {x : AV} {l' l : List AV} (h : Fr (bF B (.dat (.i y)) x /\ cI B l' l)) : bF B (.dat (.i y)) x /\ cI B l' l := h.h
theorem j4 {B : List Blk} {L : List Nat} {t : V.Term} {o w n : Int} {nm : ByteArray} {ks : List V.Term} (h : t = ⟨o, w, n, nm, ks⟩) :
    bF B (.dat (.i t.op)) (AV.numC L (.dat (.int .i64 o))) /\ cI B [.dat (.i t.w), .dat (.i t.n), .dat (.str t.name), .dat (.seq .terms t.kids)] [AV.numC L (.dat (.int .i64 w)), AV.numC L (.dat (.int .i64 n)), AV.numC L (.dat (.str nm)), AV.numC L (.dat (.seq .terms ks))] := by
  subst h
  exact ⟨rfl, rfl, rfl, rfl, rfl, True.intro⟩
theorem zG {B : List Blk} {L : List Nat} {t : V.Term} {o w n : Int} {nm : ByteArray} (h : t = ⟨o, w, n, nm, []⟩) :
    bF B (.dat (.i t.op)) (AV.numC L (.dat (.int .i64 o))) /\ cI B [.dat (.i t.w), .dat (.i t.n), .dat (.str t.name), .dat (.seq .terms t.kids)] [AV.numC L (.dat (.int .i64 w)), AV.numC L (.dat (.int .i64 n)), AV.numC L (.dat (.str nm)), AV.numC L .nils] := by
  subst h
  exact ⟨rfl, rfl, rfl, rfl, rfl, True.intro⟩
theorem fr5M {B : List Blk} {L : List Nat} {t : V.Term} {o w n : Int} {nm : ByteArray} {ks : List V.Term} (h : t = ⟨o, w, n, nm, ks⟩) :
    frzM B (s4 t) (AV.numM L (.agg [.dat (.int .i64 o), .dat (.int .i64 w), .dat (.int .i64 n), .dat (.str nm), .dat (.seq .terms ks)])) := by
  subst h
  exact ⟨rfl, rfl, rfl, rfl, rfl, True.intro⟩
theorem fr5Mn {B : List Blk} {L : List Nat} {t : V.Term} {o w n : Int} {nm : ByteArray} (h : t = ⟨o, w, n, nm, []⟩) :
    frzM B (s4 t) (AV.numM L (.agg [.dat (.int .i64 o), .dat (.int .i64 w), .dat (.int .i64 n), .dat (.str nm), .nils])) := by
  subst h
  exact ⟨rfl, rfl, rfl, rfl, rfl, True.intro⟩
theorem cG (op w n : Int) (nm : ByteArray) (ks : List V.Term) : CallsV Tryz.prog 111 [.agg [.dat (.i op), .dat (.i w), .dat (.i n), .dat (.str nm), .dat (.seq .terms ks)]] (.dat (.bool (op == 0))) := by
  refine oV Tryz.func111 ⟨?_⟩
  repeat' (first | ((with_reducible refine fun (K1 : KT) hK => ?_); refine z2 ⟨?_⟩) | ((with_reducible show K1 _ _); subst hK; conv => whnf) | refine st0 ⟨?_⟩ | fail)
  all_goals repeat clear hK K1
  all_goals first | rfl | skip
theorem lJ (op w n : Int) (nm : ByteArray) (ks : List V.Term) (m : Int) : CallsV Tryz.prog 90 [.agg [.dat (.i op), .dat (.i w), .dat (.i n), .dat (.str nm), .dat (.seq .terms ks)], .dat (.i m)] (.dat (.bool (decide (op = 0 /\ n = m)))) := by
  refine oV Tryz.func90 ⟨?_⟩
  repeat' (first | ((with_reducible refine fun (K1 : KT) hK => ?_); refine z2 ⟨?_⟩) | ((with_reducible show K1 _ _); subst hK; conv => whnf) | refine st0 ⟨?_⟩ | ((with_reducible refine SplS.mk (fun h => ?_) (fun h => ?_)) <;> first | exact m4 | (subst h; conv => whnf) | (conv => whnf)))
  all_goals repeat clear hK K1
  all_goals first | rfl | (refine db_eq ?_; rw [Bool.eq_iff_iff]; simp; done) | (refine db_eq ?_; rw [Bool.eq_iff_iff]; simp [*]; done) | (refine db_eq ?_; exact decide_eq_false omG) | (exact db_eq (by have h1 := (by with_reducible assumption : op = 0); rw [Bool.eq_iff_iff]; simp [h1])) | (exact db_eq (by rw [Bool.eq_iff_iff]; simp)) | (exact db_eq (by simp [*])) | skip
theorem pN (op : Int) : CallsV Tryz.prog 193 [.dat (.i op)] (.dat (.bool (decide (j3 op)))) := by
  refine oV Tryz.func193 ⟨?_⟩
  repeat' (first | ((with_reducible refine fun (K1 : KT) hK => ?_); refine z2 ⟨?_⟩) | ((with_reducible show K1 _ _); subst hK; conv => whnf) | refine st0 ⟨?_⟩ | ((with_reducible refine SplS.mk (fun h => ?_) (fun h => ?_)) <;> first | exact m4 | (subst h; conv => whnf) | (conv => whnf)))
  all_goals repeat clear hK K1
  all_goals first | (refine db_eq ?_; unfold j3; first | (exact decide_eq_true omG) | (exact decide_eq_false omG)) | skip
theorem xG (w n : Int) (h : wordP w n = true) : CallsV Tryz.prog 126 [.dat (.i w), .dat (.i n)] (.agg [.dat (.i 0), .dat (.i w), .dat (.i n), .dat (.str ByteArray.empty), .dat (.seq .terms [])]) := by
  refine oV Tryz.func126 ⟨?_⟩
  repeat' (first | ((with_reducible refine fun (K1 : KT) hK => ?_); refine z2 ⟨?_⟩) | ((with_reducible show K1 _ _); subst hK; conv => whnf) | (with_reducible refine y7 ?_) | refine st0 ⟨?_⟩ | ((with_reducible refine SplS.mk (fun h => ?_) (fun h => ?_)) <;> first | exact lC | (conv => whnf)) | refine vP (wD ..) ⟨?_⟩ | fail)
  all_goals repeat clear hK K1
  all_goals first | exact ⟨zG (t := cT w n) rfl⟩ | skip
section
variable {t : V.Term}
theorem o9 (ht : okT t = true) (ho : t.op = 1 \/ t.op = 2 \/ t.op = 19 \/ t.op = 20 \/ t.op = 21) : (0 : Int) < t.kids.length := by rw [lD ht ho]; decide
theorem g6 (ht : okT t = true) (ho : (3 <= t.op /\ t.op <= 16) \/ t.op = 18) : (0 : Int) < t.kids.length := by rw [jC ht ho]; decide
theorem p6 (ht : okT t = true) (ho : (3 <= t.op /\ t.op <= 16) \/ t.op = 18) : (1 : Int) < t.kids.length := by rw [jC ht ho]; decide
theorem gC (ht : okT t = true) (ho : t.op = 17) : (0 : Int) < t.kids.length := by rw [tB ht ho]; decide
theorem fC (ht : okT t = true) (ho : t.op = 17) : (1 : Int) < t.kids.length := by rw [tB ht ho]; decide
theorem eC (ht : okT t = true) (ho : t.op = 17) : (2 : Int) < t.kids.length := by rw [tB ht ho]; decide
end
theorem tn2 : Int.toNat 2 = 2 := rfl
structure IHR (m : Nat) : Prop where
  call : ∀ (op w n : Int) (nm : ByteArray) (ks : List V.Term), okT ⟨op, w, n, nm, ks⟩ = true -> g5 ⟨op, w, n, nm, ks⟩ < m ->
    CallsV Tryz.prog 127 [.agg [.dat (.i op), .dat (.i w), .dat (.i n), .dat (.str nm), .dat (.seq .terms ks)]] (s4 (p3 ⟨op, w, n, nm, ks⟩))
theorem ih_red {m : Nat} (ih : IHR m) {op w n : Int} {nm : ByteArray} {ks : List V.Term} (hk : okT ⟨op, w, n, nm, ks⟩ = true) (hm : g5 ⟨op, w, n, nm, ks⟩ < m) :
    CallsV Tryz.prog 127 [.agg [.dat (.i op), .dat (.i w), .dat (.i n), .dat (.str nm), .dat (.seq .terms ks)]] (s4 (p3 ⟨op, w, n, nm, ks⟩)) := ih.call op w n nm ks hk hm
theorem zH (op w n : Int) (ks : List V.Term) (m : Nat) (ih : IHR m) (hk : okT (oT op w n ks) = true) (hm : g5 (oT op w n ks) < m) : CallsV Tryz.prog 192 [.dat (.i op), .dat (.i w), .dat (.i n), .dat (.seq .terms ks)] (s4 (p3 (oT op w n ks))) := by
  refine oV Tryz.func192 ⟨?_⟩
  repeat' (first | ((with_reducible refine fun (K1 : KT) hK => ?_); refine z2 ⟨?_⟩) | ((with_reducible show K1 _ _); subst hK; conv => whnf) | (with_reducible refine y7 ?_) | refine st0 ⟨?_⟩ | refine vP (ih_red (ih := by assumption) (hk := ?_) (hm := ?_) ..) ⟨?_⟩ | fail)
  all_goals repeat clear hK K1
  all_goals first | exact ⟨j4 (t := p3 (oT op w n ks)) (V.Term.eta _).symm⟩ | exact True.intro | (with_reducible assumption) | exact hk | exact hm | exact rfl | skip
section
variable {t x : V.Term} {b : Bool}
theorem cA (ht : okT t = true) (ho : 1 <= t.op /\ t.op <= 21) (hc : y4 t.kids = false) (hr : u5 t = (x, b)) : p3 t = if b = true then p3 x else x := by
  have hl : t.kids.length ≠ 0 := by
    intro e
    have h1 := lD ht
    have h2 := jC ht
    have h3 := tB ht
    omega
  cases b with
  | true => rw [if_pos rfl]; exact qj8 ht hl hc hr
  | false => rw [if_neg Bool.false_ne_true]; exact qj7 hl hc hr
end
end Vg
