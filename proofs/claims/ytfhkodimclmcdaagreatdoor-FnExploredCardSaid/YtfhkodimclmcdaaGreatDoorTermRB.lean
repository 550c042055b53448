/- Operations on words by terms: contracts. Conditions: the term is good, and its kids are constants. -/
import Derived.Test.YtfhkodimclmcdaaGreatDoorTermV
import Derived.Test.YtfhkodimclmcdaaGreatDoorRg
namespace Vg
open Go Go.Proofs
set_option maxRecDepth 100000
set_option maxHeartbeats 40000000
theorem qf2 {w a low n : Int} (h : wordP w a = false) : v8 w a low n = -1 := if_neg fun k=>by rw [k.1] at h;cases h
theorem qf1 {w a low n : Int} (h : ¬ (0 <= low /\ 1 <= n /\ n <= w - low)) : v8 w a low n = -1 := if_neg fun k=>h k.2
theorem qf0 {w a low n : Int} (h : wordP w a = true) (h2 : 0 <= low /\ 1 <= n /\ n <= w - low) : v8 w a low n = u9 n (Int.fdiv a (2 ^ min low.toNat IntKind.i64.bits)) := if_pos ⟨h,h2⟩
theorem qds {w a v b : Int} (h : wordP w a = false) : gB w a v b = -1 := if_neg fun k=>by rw [k.1] at h;cases h
theorem qdr {w a v b : Int} (h : wordP v b = false) : gB w a v b = -1 := if_neg fun k=>by rw [k.2.1] at h;cases h
theorem qdq {w a v b : Int} (h : ¬ w + v <= 16) : gB w a v b = -1 := if_neg fun k=>h k.2.2
theorem qdp {w a v b : Int} (ha : wordP w a = true) (hb : wordP v b = true) (h : w + v <= 16) : IntKind.i64.wrap (IntKind.i64.wrap (a * 2 ^ min v.toNat IntKind.i64.bits) + b) = gB w a v b := by
  obtain ⟨hw,a0,a1⟩ := u4 ha
  obtain ⟨hv,b0,b1⟩ := u4 hb
  have w1 := nF hw
  have v1 := nF hv
  have em : min v.toNat IntKind.i64.bits = v.toNat := by
    have : IntKind.i64.bits = 64 := rfl
    omega
  have hp : (0 : Int) < 2 ^ v.toNat := Int.pow_pos (by decide)
  have h1 : a * 2 ^ v.toNat <= 2 ^ w.toNat * 2 ^ v.toNat := Int.mul_le_mul_of_nonneg_right omG omG
  have h2 : (2 : Int) ^ w.toNat * 2 ^ v.toNat = 2 ^ (w + v).toNat := by
    rw [<- Int.pow_add]
    congr 1
    omega
  have h3 : (2 : Int) ^ (w + v).toNat <= 65536 := (wf (w := w + v) (by simp [inP];omega)).s2
  have h4 : (2 : Int) ^ v.toNat <= 65536 := (wf hv).s2
  have h0 : 0 <= a * 2 ^ v.toNat := Int.mul_nonneg a0 omG
  rw [em,j3 (n := a * 2 ^ v.toNat) omG omG,j3 omG omG]
  unfold gB
  rw [if_pos ⟨ha,hb,h⟩]
theorem qZ {w a n : Int} {s : Bool} (h : wordP w a = false) : z8 w a n s = -1 := if_neg fun k=>by rw [k.1] at h;cases h
theorem pZ {w a n : Int} {s : Bool} (h : ¬ (w <= n /\ n <= 16)) : z8 w a n s = -1 := if_neg fun k=>h k.2
theorem wid_T {w a n : Int} {s : Bool} (h : wordP w a = true) (h2 : w <= n /\ n <= 16) (hs : s = true) : z8 w a n s = u9 n (t7 w a) := by unfold z8;rw [if_pos ⟨h,h2⟩,if_pos hs]
theorem wid_F {w a n : Int} {s : Bool} (h : wordP w a = true) (h2 : w <= n /\ n <= 16) (hs : s = false) : z8 w a n s = a := by unfold z8;rw [if_pos ⟨h,h2⟩,if_neg (by rw [hs];decide)]
theorem qjx (w a low n : Int) (hl : low <= 1048576) : CallsV Tryz.prog 196 [.dat (.i w),.dat (.i a),.dat (.i low),.dat (.i n)] (.dat (.i (v8 w a low n))) := by
  refine oV Tryz.func196 ⟨?_⟩
  repeat' (first|((with_reducible refine fun (K1 : KT) hK=>?_);refine k7 ⟨?_⟩)|((with_reducible show K1 _ _);subst hK;conv=>whnf)|refine st0 ⟨?_⟩|((with_reducible refine SplS.mk (fun h=>?_) (fun h=>?_)) <;> first|exact u5|(subst h;conv=>whnf)|(conv=>whnf))|refine f2 ⟨?_⟩ ⟨?_⟩|refine vP (dG ..) ⟨?_⟩|refine vP (tK ..) ⟨?_⟩|fail)
  all_goals repeat clear hK K1
  all_goals first|exact di_eq (qf2 asmR)|(have ha := (show wordP w a = true by with_reducible assumption);have hw := nF (u4 ha).1;(try simp only [j3 (n := w - n) omG omG] at *);first|omega|exact di_eq (qf1 omG)|exact di_eq (qf0 ha omG))|skip
theorem qem (w a low n : Int) (hl : low <= 1048576) : CallsV Tryz.prog 146 [.dat (.i w),.dat (.i a),.dat (.i low),.dat (.i n)] (.dat (.i (v8 w a low n))) := by
  refine oV Tryz.func146 ⟨?_⟩
  repeat' (first|((with_reducible refine fun (K1 : KT) hK=>?_);refine k7 ⟨?_⟩)|((with_reducible show K1 _ _);subst hK;conv=>whnf)|refine st0 ⟨?_⟩|((with_reducible refine SplS.mk (fun h=>?_) (fun h=>?_)) <;> first|exact u5|(subst h;conv=>whnf)|(conv=>whnf))|refine f2 ⟨?_⟩ ⟨?_⟩|refine vP (bE ..) ⟨?_⟩|fail)
  all_goals repeat clear hK K1
  all_goals first|exact di_eq (qf2 asmR)|(have ha := (show wordP w a = true by with_reducible assumption);have hw := nF (u4 ha).1;(try simp only [j3 (n := w - low) omG omG] at *);first|(rw [nP omG omG];omega)|exact di_eq (qf1 omG)|(have hn : inP n 1 16 = true := (by simp [inP];omega);refine di_eq ?_;rw [qf0 ha omG,mT hn,uw hn,nP (n := low) omG omG]))|skip
theorem qjs (w a v b : Int) : CallsV Tryz.prog 195 [.dat (.i w),.dat (.i a),.dat (.i v),.dat (.i b)] (.dat (.i (gB w a v b))) := by
  refine oV Tryz.func195 ⟨?_⟩
  repeat' (first|((with_reducible refine fun (K1 : KT) hK=>?_);refine k7 ⟨?_⟩)|((with_reducible show K1 _ _);subst hK;conv=>whnf)|refine st0 ⟨?_⟩|((with_reducible refine SplS.mk (fun h=>?_) (fun h=>?_)) <;> first|exact u5|(subst h;conv=>whnf)|(conv=>whnf))|refine f2 ⟨?_⟩ ⟨?_⟩|refine vP (dG ..) ⟨?_⟩|fail)
  all_goals repeat clear hK K1
  all_goals first|exact di_eq (qds asmR)|exact di_eq (qdr asmR)|(have ha := (show wordP w a = true by with_reducible assumption);have hb := (show wordP v b = true by with_reducible assumption);have hw := nF (u4 ha).1;have hv := nF (u4 hb).1;(try simp only [j3 (n := w + v) omG omG] at *);first|omega|exact di_eq (qdq omG)|exact di_eq (qdp ha hb omG).symm)|skip
theorem qei (w a v b : Int) : CallsV Tryz.prog 148 [.dat (.i w),.dat (.i a),.dat (.i v),.dat (.i b)] (.dat (.i (gB w a v b))) := by
  refine oV Tryz.func148 ⟨?_⟩
  repeat' (first|((with_reducible refine fun (K1 : KT) hK=>?_);refine k7 ⟨?_⟩)|((with_reducible show K1 _ _);subst hK;conv=>whnf)|refine st0 ⟨?_⟩|((with_reducible refine SplS.mk (fun h=>?_) (fun h=>?_)) <;> first|exact u5|(subst h;conv=>whnf)|(conv=>whnf))|refine f2 ⟨?_⟩ ⟨?_⟩|refine vP (bE ..) ⟨?_⟩|fail)
  all_goals repeat clear hK K1
  all_goals first|exact di_eq (qds asmR)|exact di_eq (qdr asmR)|(have ha := (show wordP w a = true by with_reducible assumption);have hb := (show wordP v b = true by with_reducible assumption);have hw := nF (u4 ha).1;have hv := nF (u4 hb).1;(try simp only [j3 (n := w + v) omG omG] at *);first|(rw [uw (u4 hb).1];omega)|exact di_eq (qdq omG)|(refine di_eq ?_;rw [uw (u4 hb).1];exact (qdp ha hb omG).symm))|skip
theorem qjk (w a n : Int) (s : Bool) : CallsV Tryz.prog 197 [.dat (.i w),.dat (.i a),.dat (.i n),.dat (.bool s)] (.dat (.i (z8 w a n s))) := by
  refine oV Tryz.func197 ⟨?_⟩
  repeat' (first|((with_reducible refine fun (K1 : KT) hK=>?_);refine k7 ⟨?_⟩)|((with_reducible show K1 _ _);subst hK;conv=>whnf)|refine st0 ⟨?_⟩|((with_reducible refine SplS.mk (fun h=>?_) (fun h=>?_)) <;> first|exact u5|((fail_if_success (have _x : @Eq Bool _ _ := h));subst h;conv=>whnf)|(conv=>whnf))|refine vP (dG ..) ⟨?_⟩|refine vP (tK ..) ⟨?_⟩|refine vP (qbe ..) ⟨?_⟩|fail)
  all_goals repeat clear hK K1
  all_goals first|exact di_eq (qZ asmR)|exact di_eq (pZ omG)|exact di_eq (wid_T asmR omG asmR)|exact di_eq (wid_F asmR omG asmR)|skip
theorem qeh (w a n : Int) (s : Bool) : CallsV Tryz.prog 147 [.dat (.i w),.dat (.i a),.dat (.i n),.dat (.bool s)] (.dat (.i (z8 w a n s))) := by
  refine oV Tryz.func147 ⟨?_⟩
  repeat' (first|((with_reducible refine fun (K1 : KT) hK=>?_);refine k7 ⟨?_⟩)|((with_reducible show K1 _ _);subst hK;conv=>whnf)|refine st0 ⟨?_⟩|((with_reducible refine SplS.mk (fun h=>?_) (fun h=>?_)) <;> first|exact u5|((fail_if_success (have _x : @Eq Bool _ _ := h));subst h;conv=>whnf)|(conv=>whnf))|refine vP (bE ..) ⟨?_⟩|refine vP (qL ..) ⟨?_⟩|refine vP (uR ..) ⟨?_⟩|refine vP (vW ..) ⟨?_⟩|fail)
  all_goals repeat clear hK K1
  all_goals first|exact di_eq (qZ asmR)|(simp only [inP,Bool.and_eq_true,Bool.and_eq_false_iff,decide_eq_true_eq,decide_eq_false_iff_not] at *;first|exact di_eq (pZ (by have := nF (u4 (show wordP w a = true by with_reducible assumption)).1;omega))|exact di_eq (wid_T asmR omG asmR)|exact di_eq (wid_F asmR omG asmR))|skip
theorem i_evC (op w n : Int) (nm : ByteArray) (ks : List V.Term) (ho : op = 0) : CallsV Tryz.prog 112 [.agg [.dat (.i op),.dat (.i w),.dat (.i n),.dat (.str nm),.dat (.seq .terms ks)],.nilm] (.dat (.i n)) := by
  refine oV Tryz.func112 ⟨?_⟩
  repeat' (first|((with_reducible refine fun (K1 : KT) hK=>?_);refine k7 ⟨?_⟩)|((with_reducible show K1 _ _);subst hK;conv=>whnf)|refine st0 ⟨?_⟩|((with_reducible refine SplS.mk (fun h=>?_) (fun h=>?_)) <;> first|exact o4|(subst h;conv=>whnf)|(conv=>whnf)))
  all_goals repeat clear hK K1
  all_goals first|rfl|contradiction|skip
section
variable {t : V.Term} {x : List Int}
theorem ap_u (ht : okT t = true) (ho : t.op = 1 \/ t.op = 2) : w6 t x = r7 t.op t.w (xAt x 0) := by unfold w6;rw [if_pos ho,tF ht ho]
theorem ap_b (ho : 3 <= t.op /\ t.op <= 16) : w6 t x = m4 t.op (k0 t).w (xAt x 0) (xAt x 1) := by unfold w6;rw [if_neg omG,if_pos ho]
theorem ap_i1 (ho : t.op = 17) (h : x.getD (Int.toNat 0) K.ints.dflt = 1) : w6 t x = xAt x 1 := by unfold w6;rw [if_neg omG,if_neg omG,if_pos ho];exact if_pos h
theorem ap_i2 (ho : t.op = 17) (h : ¬ x.getD (Int.toNat 0) K.ints.dflt = 1) : w6 t x = xAt x 2 := by unfold w6;rw [if_neg omG,if_neg omG,if_pos ho];exact if_neg h
theorem ap_j (ho : t.op = 18) : w6 t x = gB (k0 t).w (xAt x 0) (k1 t).w (xAt x 1) := by unfold w6;rw [if_neg omG,if_neg omG,if_neg omG,if_pos ho]
theorem ap_c (ho : t.op = 19) : w6 t x = v8 (k0 t).w (xAt x 0) t.n t.w := by unfold w6;rw [if_neg omG,if_neg omG,if_neg omG,if_neg omG,if_pos ho]
theorem ap_g (ho : t.op = 20 \/ t.op = 21) : w6 t x = z8 (k0 t).w (xAt x 0) t.w (t.op == 21) := by unfold w6;rw [if_neg omG,if_neg omG,if_neg omG,if_neg omG,if_neg omG]
theorem wD (ks : List V.Term) (i : Nat) : xAt (nums ks) i = (kAt ks i).n := by
  unfold xAt nums kAt
  rw [List.getD_eq_getElem?_getD,List.getD_eq_getElem?_getD,List.getElem?_map]
  cases ks[i]? <;> rfl
theorem bT {ks : List V.Term} {i : Nat} (h : k5 ks = true) (hi : i < ks.length) : (kAt ks i).op = 0 := by
  have e : kAt ks i = ks[i] := by rw [kAt,List.getD_eq_getElem?_getD,List.getElem?_eq_getElem hi];rfl
  rw [e]
  exact of_decide_eq_true (List.all_eq_true.1 h _ (List.getElem_mem hi))
theorem cut_n (ht : okT t = true) (ho : t.op = 19) : t.n <= 1048576 := by
  have h1 := nB ht ho
  have h2 := f8 (ok0 ht omG)
  have h3 := f8 ht
  omega
end
theorem qG {a b : Int} (h : a = b) : Dat.i b = Dat.int .i64 a := congrArg Dat.i h.symm
theorem mH {a b : Int} (h : a = b) : AV.dat (Dat.int .i64 a) = AV.dat (Dat.i b) := by rw [h]
section
variable {t : V.Term}
theorem va_u (ht : okT t = true) (ho : t.op = 1 \/ t.op = 2) : r7 t.op (k0 t).w (k0 t).n = w6 t (nums t.kids) := by rw [ap_u ht ho,wD,tF ht ho]
theorem va_b (ho : 3 <= t.op /\ t.op <= 16) : m4 t.op (k0 t).w (k0 t).n (k1 t).n = w6 t (nums t.kids) := by rw [ap_b ho,wD,wD]
theorem va_i1 (ho : t.op = 17) (h : (t.kids.getD (Int.toNat 0) K.terms.dflt).n = 1) : (k1 t).n = w6 t (nums t.kids) := by rw [ap_i1 ho ((wD t.kids 0).trans h),wD]
theorem va_i2 (ho : t.op = 17) (h : ¬ (t.kids.getD (Int.toNat 0) K.terms.dflt).n = 1) : (k2 t).n = w6 t (nums t.kids) := by rw [ap_i2 ho (fun e=>h ((wD t.kids 0).symm.trans e)),wD]
theorem va_j (ho : t.op = 18) : gB (k0 t).w (k0 t).n (k1 t).w (k1 t).n = w6 t (nums t.kids) := by rw [ap_j ho,wD,wD]
theorem va_c (ho : t.op = 19) : v8 (k0 t).w (k0 t).n t.n t.w = w6 t (nums t.kids) := by rw [ap_c ho,wD]
theorem va_g (ho : t.op = 20 \/ t.op = 21) : z8 (k0 t).w (k0 t).n t.w (t.op == 21) = w6 t (nums t.kids) := by rw [ap_g ho,wD]
end
theorem qji (t : V.Term) (x : List Int) (ht : okT t = true) (ho : 1 <= t.op /\ t.op <= 21) (hx : x.length = t.kids.length) : CallsV Tryz.prog 162 [.agg [.dat (.i t.op),.dat (.i t.w),.dat (.i t.n),.dat (.str t.name),.dat (.seq .terms t.kids)],.dat (.seq .ints x)] (.dat (.i (w6 t x))) := by
  refine oV Tryz.func162 ⟨?_⟩
  repeat' (first|((with_reducible refine fun (K1 : KT) hK=>?_);refine k7 ⟨?_⟩)|((with_reducible show K1 _ _);subst hK;conv=>whnf)|refine st0 ⟨?_⟩|((with_reducible refine SplS.mk (fun h=>?_) (fun h=>?_)) <;> first|exact u5|(subst h;conv=>whnf)|(conv=>whnf))|refine f2 ⟨?_⟩ ⟨?_⟩|refine vP (zA ..) ⟨?_⟩|refine vE (qbf ..) ⟨?_⟩|refine vE (oQ ..) ⟨?_⟩|refine vE (qjs ..) ⟨?_⟩|refine vE (qjx (hl := ?_) ..) ⟨?_⟩|refine vE (qjk ..) ⟨?_⟩|fail)
  all_goals repeat clear hK K1
  all_goals (simp only [inP,Bool.and_eq_true,Bool.and_eq_false_iff,decide_eq_true_eq,decide_eq_false_iff_not] at *;have l1 := zD ht;have l2 := tC ht;have l3 := hC ht;first|omega|exact cut_n ht omG|exact di_eq (ap_u ht omG)|exact di_eq (ap_b omG)|exact di_eq (ap_i1 omG asmR)|exact di_eq (ap_i2 omG asmR)|exact di_eq (ap_j omG)|exact di_eq (ap_c omG)|exact di_eq (ap_g omG)|skip)
theorem i_evA (t : V.Term) (ht : okT t = true) (ho : 1 <= t.op /\ t.op <= 21) (hc : k5 t.kids = true) : CallsV Tryz.prog 112 [.agg [.dat (.i t.op),.dat (.i t.w),.dat (.i t.n),.dat (.str t.name),.dat (.seq .terms t.kids)],.nilm] (.dat (.i (w6 t (nums t.kids)))) := by
  refine oV Tryz.func112 ⟨?_⟩
  repeat' (first|((with_reducible refine fun (K1 : KT) hK=>?_);refine k7 ⟨?_⟩)|((with_reducible show K1 _ _);subst hK;conv=>whnf)|refine st0 ⟨?_⟩|((with_reducible refine SplS.mk (fun h=>?_) (fun h=>?_)) <;> first|exact o4|(subst h;conv=>whnf)|(conv=>whnf))|refine f2 ⟨?_⟩ ⟨?_⟩|refine vP (i_evC (ho := ?_) ..) ⟨?_⟩|refine vP (qeo ..) ⟨?_⟩|refine vP (qem (hl := ?_) ..) ⟨?_⟩|refine vP (qeh ..) ⟨?_⟩|refine vP (qei ..) ⟨?_⟩|refine vP (lO ..) ⟨?_⟩|fail)
  all_goals repeat clear hK K1
  all_goals (have l1 := zD ht;have l2 := tC ht;have l3 := hC ht;first|omega|exact cut_n ht omG|exact bT hc (i := 0) omG|exact bT hc (i := 1) omG|exact bT hc (i := 2) omG|exact qG  (va_u ht omG)|exact qG  (va_b omG)|exact qG  (va_i1 omG asmR)|exact qG  (va_i2 omG asmR)|exact qG  (va_j omG)|exact qG  (va_c omG)|exact qG  (va_g omG)|skip)
def i5 (t : V.Term) : AV := .agg [.dat (.i t.op),.dat (.i t.w),.dat (.i t.n),.dat (.str t.name),.dat (.seq .terms t.kids)]
theorem st_eq {K : AX -> AState -> Prop} {n : Nat} {tm tm' : Nat -> AV} {blk blk' : Nat -> Option Blk} (key : K .normal ⟨n,tm,blk⟩) (h1 : ∀ j,tm j = tm' j) (h2 : ∀ j,blk j = blk' j) : K .normal ⟨n,tm',blk'⟩ := by
  rw [<- funext h1,<- funext h2];exact key
structure Fr (p : Prop) : Prop where
  h : p
theorem a8 {B : List Blk} {y : Int} {x : AV} {l' l : List AV} (h : Fr (fE B (.dat (.i y)) x /\ oI B l' l)) : fE B (.dat (.i y)) x /\ oI B l' l := h.h
theorem k4 {B : List Blk} {L : List Nat} {t : V.Term} {o w n : Int} {nm : ByteArray} {ks : List V.Term} (h : t = ⟨o,w,n,nm,ks⟩) :
    fE B (.dat (.i t.op)) (AV.numC L (.dat (.int .i64 o))) /\ oI B [.dat (.i t.w),.dat (.i t.n),.dat (.str t.name),.dat (.seq .terms t.kids)] [AV.numC L (.dat (.int .i64 w)),AV.numC L (.dat (.int .i64 n)),AV.numC L (.dat (.str nm)),AV.numC L (.dat (.seq .terms ks))] := by
  subst h
  exact ⟨rfl,rfl,rfl,rfl,rfl,True.intro⟩
theorem gH {B : List Blk} {L : List Nat} {t : V.Term} {o w n : Int} {nm : ByteArray} (h : t = ⟨o,w,n,nm,[]⟩) :
    fE B (.dat (.i t.op)) (AV.numC L (.dat (.int .i64 o))) /\ oI B [.dat (.i t.w),.dat (.i t.n),.dat (.str t.name),.dat (.seq .terms t.kids)] [AV.numC L (.dat (.int .i64 w)),AV.numC L (.dat (.int .i64 n)),AV.numC L (.dat (.str nm)),AV.numC L .nils] := by
  subst h
  exact ⟨rfl,rfl,rfl,rfl,rfl,True.intro⟩
theorem fr5M {B : List Blk} {L : List Nat} {t : V.Term} {o w n : Int} {nm : ByteArray} {ks : List V.Term} (h : t = ⟨o,w,n,nm,ks⟩) :
    frzM B (i5 t) (AV.numM L (.agg [.dat (.int .i64 o),.dat (.int .i64 w),.dat (.int .i64 n),.dat (.str nm),.dat (.seq .terms ks)])) := by
  subst h
  exact ⟨rfl,rfl,rfl,rfl,rfl,True.intro⟩
theorem fr5Mn {B : List Blk} {L : List Nat} {t : V.Term} {o w n : Int} {nm : ByteArray} (h : t = ⟨o,w,n,nm,[]⟩) :
    frzM B (i5 t) (AV.numM L (.agg [.dat (.int .i64 o),.dat (.int .i64 w),.dat (.int .i64 n),.dat (.str nm),.nils])) := by
  subst h
  exact ⟨rfl,rfl,rfl,rfl,rfl,True.intro⟩
theorem pF (op w n : Int) (nm : ByteArray) (ks : List V.Term) : CallsV Tryz.prog 160 [.agg [.dat (.i op),.dat (.i w),.dat (.i n),.dat (.str nm),.dat (.seq .terms ks)]] (.dat (.bool (op == 0))) := by
  refine oV Tryz.func160 ⟨?_⟩
  repeat' (first|((with_reducible refine fun (K1 : KT) hK=>?_);refine r3 ⟨?_⟩)|((with_reducible show K1 _ _);subst hK;conv=>whnf)|refine st0 ⟨?_⟩|fail)
  all_goals repeat clear hK K1
  all_goals first|rfl|skip
theorem kI (op w n : Int) (nm : ByteArray) (ks : List V.Term) (m : Int) : CallsV Tryz.prog 126 [.agg [.dat (.i op),.dat (.i w),.dat (.i n),.dat (.str nm),.dat (.seq .terms ks)],.dat (.i m)] (.dat (.bool (decide (op = 0 /\ n = m)))) := by
  refine oV Tryz.func126 ⟨?_⟩
  repeat' (first|((with_reducible refine fun (K1 : KT) hK=>?_);refine r3 ⟨?_⟩)|((with_reducible show K1 _ _);subst hK;conv=>whnf)|refine st0 ⟨?_⟩|((with_reducible refine SplS.mk (fun h=>?_) (fun h=>?_)) <;> first|exact o4|(subst h;conv=>whnf)|(conv=>whnf)))
  all_goals repeat clear hK K1
  all_goals first|rfl|(refine db_eq ?_;rw [Bool.eq_iff_iff];simp;done)|(refine db_eq ?_;rw [Bool.eq_iff_iff];simp [*];done)|(refine db_eq ?_;exact decide_eq_false omG)|(exact db_eq (by have h1 := (by with_reducible assumption : op = 0);rw [Bool.eq_iff_iff];simp [h1]))|(exact db_eq (by rw [Bool.eq_iff_iff];simp))|(exact db_eq (by simp [*]))|skip
theorem pL (op : Int) : CallsV Tryz.prog 228 [.dat (.i op)] (.dat (.bool (decide (g4 op)))) := by
  refine oV Tryz.func228 ⟨?_⟩
  repeat' (first|((with_reducible refine fun (K1 : KT) hK=>?_);refine r3 ⟨?_⟩)|((with_reducible show K1 _ _);subst hK;conv=>whnf)|refine st0 ⟨?_⟩|((with_reducible refine SplS.mk (fun h=>?_) (fun h=>?_)) <;> first|exact o4|(subst h;conv=>whnf)|(conv=>whnf)))
  all_goals repeat clear hK K1
  all_goals first|(refine db_eq ?_;unfold g4;first|(exact decide_eq_true omG)|(exact decide_eq_false omG))|skip
theorem oD (w n : Int) (h : wordP w n = true) : CallsV Tryz.prog 89 [.dat (.i w),.dat (.i n)] (.agg [.dat (.i 0),.dat (.i w),.dat (.i n),.dat (.str ByteArray.empty),.dat (.seq .terms [])]) := by
  refine oV Tryz.func89 ⟨?_⟩
  repeat' (first|((with_reducible refine fun (K1 : KT) hK=>?_);refine r3 ⟨?_⟩)|((with_reducible show K1 _ _);subst hK;conv=>whnf)|(with_reducible refine a8 ?_)|refine st0 ⟨?_⟩|((with_reducible refine SplS.mk (fun h=>?_) (fun h=>?_)) <;> first|exact yC|(conv=>whnf))|refine vP (bE ..) ⟨?_⟩|fail)
  all_goals repeat clear hK K1
  all_goals first|exact ⟨gH (t := cT w n) rfl⟩|skip
section
variable {t : V.Term}
theorem r9 (ht : okT t = true) (ho : t.op = 1 \/ t.op = 2 \/ t.op = 19 \/ t.op = 20 \/ t.op = 21) : (0 : Int) < t.kids.length := by rw [zD ht ho];decide
theorem j6 (ht : okT t = true) (ho : (3 <= t.op /\ t.op <= 16) \/ t.op = 18) : (0 : Int) < t.kids.length := by rw [tC ht ho];decide
theorem s6 (ht : okT t = true) (ho : (3 <= t.op /\ t.op <= 16) \/ t.op = 18) : (1 : Int) < t.kids.length := by rw [tC ht ho];decide
theorem fC (ht : okT t = true) (ho : t.op = 17) : (0 : Int) < t.kids.length := by rw [hC ht ho];decide
theorem eC (ht : okT t = true) (ho : t.op = 17) : (1 : Int) < t.kids.length := by rw [hC ht ho];decide
theorem dC (ht : okT t = true) (ho : t.op = 17) : (2 : Int) < t.kids.length := by rw [hC ht ho];decide
end
theorem tn2 : Int.toNat 2 = 2 := rfl
structure IHR (m : Nat) : Prop where
  call : ∀ (op w n : Int) (nm : ByteArray) (ks : List V.Term),okT ⟨op,w,n,nm,ks⟩ = true -> l5 ⟨op,w,n,nm,ks⟩ < m ->
    CallsV Tryz.prog 155 [.agg [.dat (.i op),.dat (.i w),.dat (.i n),.dat (.str nm),.dat (.seq .terms ks)]] (i5 (j4 ⟨op,w,n,nm,ks⟩))
theorem ih_red {m : Nat} (ih : IHR m) {op w n : Int} {nm : ByteArray} {ks : List V.Term} (hk : okT ⟨op,w,n,nm,ks⟩ = true) (hm : l5 ⟨op,w,n,nm,ks⟩ < m) :
    CallsV Tryz.prog 155 [.agg [.dat (.i op),.dat (.i w),.dat (.i n),.dat (.str nm),.dat (.seq .terms ks)]] (i5 (j4 ⟨op,w,n,nm,ks⟩)) := ih.call op w n nm ks hk hm
theorem fH (op w n : Int) (ks : List V.Term) (m : Nat) (ih : IHR m) (hk : okT (oT op w n ks) = true) (hm : l5 (oT op w n ks) < m) : CallsV Tryz.prog 227 [.dat (.i op),.dat (.i w),.dat (.i n),.dat (.seq .terms ks)] (i5 (j4 (oT op w n ks))) := by
  refine oV Tryz.func227 ⟨?_⟩
  repeat' (first|((with_reducible refine fun (K1 : KT) hK=>?_);refine r3 ⟨?_⟩)|((with_reducible show K1 _ _);subst hK;conv=>whnf)|(with_reducible refine a8 ?_)|refine st0 ⟨?_⟩|refine vP (ih_red (ih := by assumption) (hk := ?_) (hm := ?_) ..) ⟨?_⟩|fail)
  all_goals repeat clear hK K1
  all_goals first|exact ⟨k4 (t := j4 (oT op w n ks)) (V.Term.eta _).symm⟩|exact True.intro|(with_reducible assumption)|exact hk|exact hm|exact rfl|skip
section
variable {t x : V.Term} {b : Bool}
theorem eA (ht : okT t = true) (ho : 1 <= t.op /\ t.op <= 21) (hc : k5 t.kids = false) (hr : s5 t = (x,b)) : j4 t = if b = true then j4 x else x := by
  have hl : t.kids.length ≠ 0 := by
    intro e
    have h1 := zD ht
    have h2 := tC ht
    have h3 := hC ht
    omega
  cases b with
  | true=>rw [if_pos rfl];exact qk2 ht hl hc hr
  | false=>rw [if_neg Bool.false_ne_true];exact qk1 hl hc hr
end
end Vg
