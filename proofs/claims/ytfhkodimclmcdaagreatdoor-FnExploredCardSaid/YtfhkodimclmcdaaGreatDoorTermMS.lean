/- Walks and laws that the proof leans on. No condition. -/
import Derived.Test.YtfhkodimclmcdaaGreatDoorTermMB
import Derived.Test.YtfhkodimclmcdaaGreatDoorTermRd
import Derived.Test.YtfhkodimclmcdaaGreatDoorTermMBA
import Derived.Test.YtfhkodimclmcdaaGreatDoorTermMBB
import Derived.Test.YtfhkodimclmcdaaGreatDoorTermMBC
namespace Vg
open Go Go.Proofs
set_option maxRecDepth 100000
set_option maxHeartbeats 40000000
theorem c0_w {t : V.Term} (ht : okT t = true) (ho : t.op = 17) : (k0 t).op = 0 -> (k0 t).n = 0 \/ (k0 t).n = 1 := by
  intro h
  by_cases c : (k0 t).n = 1
  . exact .inr c
  . exact .inl (v7 (ok0 ht omG) h (xO ht ho).1 c)
theorem s_l02If (t : V.Term) (ih : IHM (l5 t)) (ht : okT t = true) (ho : t.op = 17) (hc : k5 t.kids = false) : CallsV Tryz.prog 164 [.agg [.dat (.i t.op),.dat (.i t.w),.dat (.i t.n),.dat (.str t.name),.dat (.seq .terms t.kids)]] (i5 (j4 t)) := by
  refine oV Tryz.func164 ⟨?_⟩
  repeat' (first|((with_reducible refine fun (K1 : KT) hK=>?_);refine r3 ⟨?_⟩)|((with_reducible show K1 _ _);subst hK;conv=>whnf)|(with_reducible refine a8 ?_)|(with_reducible exact rfl)|refine y7 ⟨?_⟩|refine st0 ⟨?_⟩|((with_reducible refine SplS.mk (fun h=>?_) (fun h=>?_)) <;> first|exact o4|(subst h;conv=>whnf)|(conv=>whnf))|refine f2 ⟨?_⟩ ⟨?_⟩|refine vP (oC ..) ⟨?_⟩|refine vP (rH ..) ⟨?_⟩|((with_reducible refine y9 (g := 134) ?_);(conv=>whnf);refine ⟨_,_,iI (ih := asmR) (hk := ?_) (hm := ?_) ..,rfl,zV ?_⟩;rotate_right;conv=>whnf))
  all_goals repeat clear hK K1
  all_goals first|((with_reducible show (_ : Int) <= _);omega)|((with_reducible show (_ : Int) < _);first|exact r9 ht omG|exact fC ht omG|exact eC ht omG|exact dC ht omG|exact r9 (ok0 ht omG) omG|exact j6 (ok0 ht omG) omG|exact s6 (ok0 ht omG) omG|exact fC (ok0 ht omG) omG|exact eC (ok0 ht omG) omG|exact dC (ok0 ht omG) omG|exact r9 (y4 ht omG) omG|exact fC (y4 ht omG) omG|exact eC (y4 ht omG) omG|exact dC (y4 ht omG) omG|omega)|(have q0 := c0_w ht ho;(simp only [V.Term.eta,Int.toNat_zero,Int.toNat_one,tn2,k0,kAt] at *;(try (refine ⟨k4 (t := j4 t) ?_⟩;(try rw [V.Term.eta])));first|omega|(obtain ⟨y,hr⟩ : ∃ y,s5 t = y := ⟨_,rfl⟩;have hz := hr;unfold s5 gG at hz;simp only [k0,k1,k2,kAt] at hz;(repeat (first|rw [if_pos omG] at hz|rw [if_neg omG] at hz|rw [if_pos (by unfold g4;omega)] at hz|rw [if_neg (by unfold g4;omega)] at hz));rw [<- hz] at hr;(try rw [ho] at hr);first|exact eA ht omG hc hr|exact ⟨gH (t := j4 t) (eA ht omG hc hr)⟩|exact (m9 ht omG hr).1|exact (m9 ht omG hr).2)))|skip
theorem qjf (t : V.Term) (ih : IHM (l5 t)) (ht : okT t = true) (ho : t.op = 19) (hc : k5 t.kids = false) : CallsV Tryz.prog 165 [.agg [.dat (.i t.op),.dat (.i t.w),.dat (.i t.n),.dat (.str t.name),.dat (.seq .terms t.kids)]] (i5 (j4 t)) := by
  refine oV Tryz.func165 ⟨?_⟩
  repeat' (first|((with_reducible refine fun (K1 : KT) hK=>?_);refine r3 ⟨?_⟩)|((with_reducible show K1 _ _);subst hK;conv=>whnf)|(with_reducible refine a8 ?_)|refine st0 ⟨?_⟩|((with_reducible refine SplS.mk (fun h=>?_) (fun h=>?_)) <;> first|exact u5|(subst h;conv=>whnf)|(conv=>whnf))|refine f2 ⟨?_⟩ ⟨?_⟩|refine vE (qjh (ih := by assumption) (hk := ?_) (hm := ?_) ..) ⟨?_⟩|refine vE (zA ..) ⟨?_⟩|fail)
  all_goals repeat clear hK K1
  all_goals first|((with_reducible show (_ : Int) <= _);omega)|((with_reducible show (_ : Int) < _);first|exact r9 ht omG|exact j6 ht omG|exact s6 ht omG|exact r9 (ok0 ht omG) omG|exact r9 (ok0 ht omG) (by have h := k6.1 (show inP (t.kids.getD (Int.toNat 0) K.terms.dflt).op 20 21 = true by with_reducible assumption);have e : (t.kids.getD (Int.toNat 0) K.terms.dflt).op = (k0 t).op := rfl;omega)|exact j6 (ok0 ht omG) omG|exact s6 (ok0 ht omG) omG|exact fC (ok0 ht omG) omG|exact eC (ok0 ht omG) omG|exact dC (ok0 ht omG) omG|exact r9 (y4 ht omG) omG|exact j6 (y4 ht omG) omG|exact s6 (y4 ht omG) omG|exact fC (y4 ht omG) omG|exact eC (y4 ht omG) omG|exact dC (y4 ht omG) omG|omega)|(have b0 := nB ht omG;have wt := f8 ht;have w0 := f8 (ok0 ht omG);have c0 := fun h=>nB (ok0 ht omG) h;have v0 := fun h=>f8 (y4 (ok0 ht omG) h);have v1 := fun h=>f8 (ok0 (ok0 ht omG) h);(try simp only [inP,Bool.and_eq_true,Bool.and_eq_false_iff,decide_eq_true_eq,decide_eq_false_iff_not] at *);(simp only [V.Term.eta,Int.toNat_zero,Int.toNat_one,k0,k1,kAt] at *;(try simp only [j3 (n := t.n + t.w) omG omG] at *);(try simp only [j3 (n := t.n + (t.kids.getD 0 K.terms.dflt).n) omG omG] at *);(try simp only [j3 (n := t.n - ((t.kids.getD 0 K.terms.dflt).kids.getD 1 K.terms.dflt).w) omG omG] at *);(try (refine ⟨k4 (t := j4 t) ?_⟩;(try rw [V.Term.eta])));first|omega|(obtain ⟨y,hr⟩ : ∃ y,s5 t = y := ⟨_,rfl⟩;have hz := hr;unfold s5 iG at hz;simp only [k0,k1,kAt] at hz;(repeat (first|rw [if_pos omG] at hz|rw [if_neg omG] at hz|rw [if_pos (by unfold g4;omega)] at hz|rw [if_neg (by unfold g4;omega)] at hz));rw [<- hz] at hr;(try rw [ho] at hr);first|exact eA ht omG hc hr|exact ⟨gH (t := j4 t) (eA ht omG hc hr)⟩|exact (m9 ht omG hr).1|exact (m9 ht omG hr).2)))|skip
theorem qja (t : V.Term) (ih : IHM (l5 t)) (ht : okT t = true) (ho : inP t.op 3 16 = true) (hc : k5 t.kids = false) :
    CallsV Tryz.prog 163 [.agg [.dat (.i t.op),.dat (.i t.w),.dat (.i t.n),.dat (.str t.name),.dat (.seq .terms t.kids)]] (i5 (j4 t)) := by
  rw [k6] at ho
  have c : t.op = 3 \/ t.op = 4 \/ t.op = 5 \/ t.op = 6 \/ t.op = 7 \/ t.op = 8 \/ t.op = 9 \/ t.op = 10 \/ t.op = 11 \/ t.op = 12 \/ t.op = 13 \/ t.op = 14 \/ t.op = 15 \/ t.op = 16 := by omega
  rcases c with h|h|h|h|h|h|h|h|h|h|h|h|h|h <;> rw [h]
  . exact s_T3 t ih ht h hc
  . exact s_T4 t ih ht h hc
  . exact s_T5 t ih ht h hc
  . exact s_T6 t ih ht h hc
  . exact s_T7 t ih ht h hc
  . exact s_T8 t ih ht h hc
  . exact s_T9 t ih ht h hc
  . exact s_T10 t ih ht h hc
  . exact s_T11 t ih ht h hc
  . exact s_T12 t ih ht h hc
  . exact s_T13 t ih ht h hc
  . exact s_T14 t ih ht h hc
  . exact s_T15 t ih ht h hc
  . exact s_T16 t ih ht h hc
theorem wdK {t : V.Term} (ht : okT t = true) (ho : t.op = 20 \/ t.op = 21) (h : (k0 t).op = t.op) : oT t.op t.w 0 [k0 (k0 t)] = oT t.op t.w 0 (k0 t).kids := by
  have e := ks1 (zD (ok0 ht omG) omG)
  rw [oT,oT,<- e]
theorem jnK {t : V.Term} (ht : okT t = true) (ho : t.op = 18) (h : (k1 t).op = 19) : oT 19 t.w (k1 t).n [k0 (k1 t)] = oT 19 t.w (k1 t).n (k1 t).kids := by
  have e := ks1 (zD (y4 ht omG) omG)
  rw [oT,oT,<- e]
theorem jn_wrap {t : V.Term} (ht : okT t = true) (h18 : t.op = 18) (h1 : (t.kids.getD (Int.toNat 1) K.terms.dflt).op = 19) :
    IntKind.i64.wrap ((t.kids.getD (Int.toNat 1) K.terms.dflt).n + (t.kids.getD (Int.toNat 1) K.terms.dflt).w) = (t.kids.getD (Int.toNat 1) K.terms.dflt).n + (t.kids.getD (Int.toNat 1) K.terms.dflt).w := by
  have e : (t.kids.getD (Int.toNat 1) K.terms.dflt) = k1 t := rfl
  rw [e] at h1 ⊢
  have c1 := nB (y4 ht omG) h1
  have w1 := f8 (y4 ht omG)
  have v1 := f8 (ok0 (y4 ht omG) omG)
  exact j3 omG omG
theorem aX {t : V.Term} {k : Nat} {b : Bool} (hk : k <= t.kids.length) (h : ¬ (k : Int) < t.kids.length) (e : (decide ((t.kids.length : Int) > 0) && k5 (t.kids.take k)) = b) (h0 : t.kids ≠ []) : k5 t.kids = b := by
  rw [List.take_of_length_le omG] at e
  have : 0 < t.kids.length := List.length_pos_iff.2 h0
  rw [decide_eq_true omG,Bool.true_and] at e
  exact e
theorem mL {t : V.Term} (ht : okT t = true) : t.kids.length <= 3 := by
  have := (cA ht).len
  unfold nA at this
  repeat' split at this
  all_goals omega
theorem qdj {t : V.Term} (ht : okT t = true) (ho : 1 <= t.op /\ t.op <= 21) : t.kids ≠ [] := by
  intro e
  have h1 := zD ht
  have h2 := tC ht
  have h3 := hC ht
  rw [e] at h1 h2 h3
  simp only [List.length_nil] at h1 h2 h3
  omega
theorem kids_no {t : V.Term} (ht : okT t = true) (ho : ¬ (1 <= t.op /\ t.op <= 21)) : t.kids.length = 0 := by
  have := (cA ht).len
  have h2 := lV ht
  unfold nA at this
  rw [if_pos omG] at this
  omega
theorem qd3 {n a b : Int} (h : inP n a b = false) : ¬ (a <= n /\ n <= b) := fun q=>by rw [k6.2 q] at h;cases h
theorem kn_y {n : Int} {b : Bool} (h : (decide (n > 0) && b) = true) : n > 0 := by rw [Bool.and_eq_true] at h;exact of_decide_eq_true h.1
theorem mk_bt {ks : List V.Term} {k : Nat} (hk : (k : Int) < ks.length) (h : (decide ((ks.length : Int) > 0) && k5 (ks.take k)) = true) : Dat.bool (decide ((ks.length : Int) > 0) && k5 (ks.take (k + 1))) = Dat.bool ((ks.getD (k : Int).toNat K.terms.dflt).op == 0) := by
  rw [Bool.and_eq_true] at h
  rw [h.1,Bool.true_and]
  exact ac_t hk h.2
theorem mk_bf {ks : List V.Term} {k : Nat} (hk : (k : Int) < ks.length) (h : (decide ((ks.length : Int) > 0) && k5 (ks.take k)) = false) : Dat.bool (decide ((ks.length : Int) > 0) && k5 (ks.take (k + 1))) = Dat.bool false := by
  rw [decide_eq_true omG,Bool.true_and] at h ⊢
  exact ac_f hk h
theorem mk_b0 (ks : List V.Term) : Dat.bool (decide ((ks.length : Int) > 0) && k5 (ks.take 0)) = Dat.bool (decide ((ks.length : Int) > 0)) := by
  rw [allC_0,Bool.and_true]
theorem nums_s {ks : List V.Term} {k : Nat} (hk : (k : Int) < ks.length) : nums (ks.take (k + 1)) = nums (ks.take k) ++ [(ks.getD (k : Int).toNat K.terms.dflt).n] := by
  have h : k < ks.length := by omega
  have e : ks.getD (k : Int).toNat K.terms.dflt = ks[k] := by
    rw [Int.toNat_natCast,List.getD_eq_getElem?_getD,List.getElem?_eq_getElem h];rfl
  rw [e,List.take_add_one,List.getElem?_eq_getElem h]
  unfold nums
  rw [List.map_append]
  rfl
theorem wT {ks : List V.Term} {k : Nat} (h : ks.length <= k) : ks.take k = ks := List.take_of_length_le h
theorem wr_s {k : Nat} (h : k <= 3) : Dat.i ((k + 1 : Nat) : Int) = Dat.int IntKind.i64 (IntKind.i64.wrap ((k : Int) + 1)) := by
  rw [j3 omG omG];rfl
theorem nV {ks : List V.Term} {k : Nat} (hk : k <= ks.length) : (nums (ks.take k)).length = k := by
  simp [nums]
  omega
theorem s_mk0 (t : V.Term) (ih : IHM (l5 t)) (ht : okT t = true) : CallsV Tryz.prog 134 [.agg [.dat (.i t.op),.dat (.i t.w),.dat (.i t.n),.dat (.str t.name),.dat (.seq .terms t.kids)]] (i5 (j4 t)) := by
  refine oV Tryz.func134 ⟨?_⟩
  repeat' (first|((with_reducible refine fun (K1 : KT) hK=>?_);refine r3 ⟨?_⟩)|((with_reducible show K1 _ _);subst hK;conv=>whnf)|(with_reducible refine a8 ?_)|(with_reducible exact rfl)|refine st0 ⟨?_⟩|((with_reducible refine SplS.mk (fun h=>?_) (fun h=>?_)) <;> first|exact u5|(subst h;conv=>whnf)|(conv=>whnf))|refine f2 ⟨?_⟩ ⟨?_⟩|(refine y5 ({k : Nat // k <= t.kids.length}) (fun ⟨k,hk⟩=>x5 Tryz.f134.ntmps [(1,.ptr 1 0),(2,.ptr 2 0),(3,.dat (.bool (decide ((t.kids.length : Int) > 0) && k5 (t.kids.take k)))),(4,.row 4),(16,.dat (.seq .terms t.kids)),(17,.dat (.i t.kids.length)),(18,.dat (.i k))] [(1,.box [.dat (.i t.op),.dat (.i t.w),.dat (.i t.n),.dat (.str t.name),.dat (.seq .terms t.kids)]),(2,.box [.dat (.i 0),.dat (.i 0),.dat (.i 0),.dat (.str ByteArray.empty),.nils]),(4,.row 3 .ints (nums (t.kids.take k)) false)]) (fun ⟨k,hk⟩=>t.kids.length - k) ⟨0,Nat.zero_le _⟩ (SubP.sub (σ := [(1,some 1),(2,some 2),(4,some 14)]) ⟨⟨rfl,rfl,rfl⟩,⟨rr,rr,o0 ?_,rfl,o0 ?_,o0 ?_,o0 ?_,trivial⟩,⟨⟨j0 ?_,j0 ?_,j0 ?_,j0 ?_,j0 ?_,trivial⟩,⟨j0 ?_,j0 ?_,j0 ?_,j0 ?_,trivial,trivial⟩,⟨rr, ?_⟩,trivial⟩⟩) (fun ⟨k,hk⟩=>?_);rotate_right;conv=>whnf)|(refine b6 (⟨k + 1, ?_⟩ : {k : Nat // k <= t.kids.length}) ?_ (SubP.sub (σ := [(1,some 1),(2,some 2),(4,some 32)]) ⟨⟨rfl,rfl,rfl⟩,⟨rr,rr,o0 ?_,rfl,o0 ?_,o0 ?_,o0 ?_,trivial⟩,⟨⟨j0 ?_,j0 ?_,j0 ?_,j0 ?_,j0 ?_,trivial⟩,⟨j0 ?_,j0 ?_,j0 ?_,j0 ?_,trivial,trivial⟩,⟨rr, ?_⟩,trivial⟩⟩))|refine vE (cG ..) ⟨?_⟩|refine vE (qji (ht := ?_) (ho := ?_) (hx := ?_) ..) ⟨?_⟩|refine vP (zA ..) ⟨?_⟩|refine vP (qja (ih := by assumption) (ht := ?_) (ho := ?_) (hc := ?_) ..) ⟨?_⟩|refine vP (s_l02If (ih := by assumption) (ht := ?_) (ho := ?_) (hc := ?_) ..) ⟨?_⟩|refine vP (qjf (ih := by assumption) (ht := ?_) (ho := ?_) (hc := ?_) ..) ⟨?_⟩|refine vP (iI (ih := by assumption) (hk := ?_) (hm := ?_) ..) ⟨?_⟩|refine vE (rH ..) ⟨?_⟩|(intro h;conv=>whnf))
  all_goals repeat clear hK K1
  all_goals first|((with_reducible show (_ : Int) <= _);first|omega|(have := yH ht (List.ne_nil_of_length_pos (by have := kn_y (show (decide ((t.kids.length : Int) > 0) && k5 (List.take k t.kids)) = true by with_reducible assumption);omega));omega))|((with_reducible show (_ : Int) < _);first|(with_reducible assumption)|exact r9 ht omG|exact j6 ht omG|exact s6 ht omG|exact r9 (ok0 ht omG) omG|exact r9 (y4 ht omG) omG|exact lt_k00 ht omG asmR)|((with_reducible show (_ : Nat) < _);(dsimp only;omega))|(with_reducible exact mk_bt asmR asmR)|(with_reducible exact mk_bf asmR asmR)|(with_reducible exact mk_b0 _)|(have l3 := mL ht;exact wr_s omG)|exact congrArg (Sigma.mk K.ints) (nums_s asmR)|((with_reducible show _ * _ <= _);have l3 := mL ht;have l4 := nV (ks := t.kids) hk;rw [l4];show (k + 1) * 8 <= _;omega)|((with_reducible show _ + _ <= _);have l3 := mL ht;have l4 := nV (ks := t.kids) hk;rw [l4];show k + 1 <= 2 ^ 63 - 1;omega)|((with_reducible show _ <= _);omega)|((with_reducible show (_ : Nat) = _);rw [nV hk];omega)|((with_reducible show (_ : Int) = _);with_reducible assumption)|(with_reducible exact ht)|(with_reducible assumption)|((with_reducible show k5 _ = false);exact aX hk asmR asmR (qdj ht (by first|omega|(have hi := k6.1 (show inP t.op 3 16 = true by with_reducible assumption);omega))))|((with_reducible show Dat.i _ = Dat.int _ _);exact rfl)|((with_reducible show Sigma.mk _ _ = _);exact rfl)|exact ⟨k4 (V.Term.eta _).symm⟩|(have hp := kn_y (show (decide ((t.kids.length : Int) > 0) && k5 (List.take k t.kids)) = true by with_reducible assumption);rw [wT (ks := t.kids) (k := k) omG];exact ⟨k4 (fR omG (aX hk asmR asmR (List.ne_nil_of_length_pos omG)))⟩)|(have hi := qd3 (show inP t.op 3 16 = false by with_reducible assumption);exact ⟨k4 ((qct (kids_no ht omG)).trans (V.Term.eta _).symm)⟩)|(have hi := qd3 (show inP t.op 3 16 = false by with_reducible assumption);have hz0 : 1 <= t.op /\ t.op <= 21 := omG;have hc := aX hk asmR asmR (qdj ht hz0);have wt := f8 ht;(try (have jw := jn_wrap ht asmR asmR;simp only [jw] at *;clear jw));(simp only [V.Term.eta,Int.toNat_zero,Int.toNat_one] at *);(try (refine ⟨k4 (t := j4 t) ?_⟩;(try rw [V.Term.eta])));obtain ⟨y,hr⟩ : ∃ y,s5 t = y := ⟨_,rfl⟩;have hz := hr;unfold s5 at hz;(repeat (first|rw [if_pos omG] at hz|rw [if_neg omG] at hz));(first|unfold dF at hz|unfold eG at hz|unfold fG at hz|skip);simp only [k0,k1,kAt] at hz;(repeat (first|rw [if_pos omG] at hz|rw [if_neg omG] at hz));rw [<- hz] at hr;first|exact eA ht hz0 hc hr|exact (eA ht hz0 hc hr).trans (congrArg j4 (wdK ht omG asmR))|exact (eA ht hz0 hc hr).trans (congrArg j4 (jnK ht omG asmR))|exact (congrArg okT (wdK ht omG asmR)).symm.trans (m9 ht hz0 hr).1|exact (congrArg okT (jnK ht omG asmR)).symm.trans (m9 ht hz0 hr).1|exact (congrArg l5 (wdK ht omG asmR)) ▸ (m9 ht hz0 hr).2|exact (congrArg l5 (jnK ht omG asmR)) ▸ (m9 ht hz0 hr).2)|skip
theorem qd5 : ∀ m,IHM m
  | 0=>⟨fun _ _ _ _ _ _ h=>absurd h (Nat.not_lt_zero _)⟩
  | m + 1=>⟨fun op w n nm ks hk hm=>s_mk0 ⟨op,w,n,nm,ks⟩ ⟨fun op' w' n' nm' ks' hk' hm'=>(qd5 m).call op' w' n' nm' ks' hk' omG⟩ hk⟩
theorem qje (op w n : Int) (nm : ByteArray) (ks : List V.Term) (hk : okT ⟨op,w,n,nm,ks⟩ = true) :
    CallsV Tryz.prog 134 [.agg [.dat (.i op),.dat (.i w),.dat (.i n),.dat (.str nm),.dat (.seq .terms ks)]] (i5 (j4 ⟨op,w,n,nm,ks⟩)) :=
  (qd5 (l5 ⟨op,w,n,nm,ks⟩ + 1)).call op w n nm ks hk (Nat.lt_succ_self _)
theorem xE {α : Type} {a x : α} {P : Prop} (h : (a,true) = (x,false)) : P := by simp at h
theorem sA {α : Type} {a x : α} (h : (a,false) = (x,false)) : x = a := by simp at h;exact h.symm
theorem qkl : wordP 1 1 = true := by decide
theorem red_no {t x : V.Term} (h : okT t = true) (ho : 1 <= t.op /\ t.op <= 21) (hr : s5 t = (x,false)) : okT x = true /\ x.w = t.w := by
  have a0 := ok0 h ho
  unfold s5 at hr
  by_cases c1 : t.op = 1 \/ t.op = 2
  . rw [if_pos c1] at hr
    unfold dF at hr
    have e := tF h c1
    rcases p4 hr with ⟨c,hr⟩|⟨_,hr⟩
    . obtain rfl := sA hr
      have f := tF a0 omG
      exact ⟨ok0 a0 omG,by omega⟩
    . obtain rfl := sA hr;exact ⟨h,rfl⟩
  rw [if_neg c1] at hr
  by_cases c2 : t.op = 17
  . rw [if_pos c2] at hr
    have e := xO h c2
    unfold gG at hr
    rcases p4 hr with ⟨c,hr⟩|⟨c,hr⟩
    . obtain rfl := sA hr;exact ⟨y4 h omG,e.2.1⟩
    rcases p4 hr with ⟨c,hr⟩|⟨c,hr⟩
    . obtain rfl := sA hr;exact ⟨ok2 h omG,e.2.2⟩
    rcases p4 hr with ⟨c,hr⟩|⟨c,hr⟩
    . obtain rfl := sA hr;exact ⟨y4 h omG,e.2.1⟩
    rcases p4 hr with ⟨c,hr⟩|⟨c,hr⟩
    . exact xE hr
    rcases p4 hr with ⟨c,hr⟩|⟨c,hr⟩
    . obtain rfl := sA hr;exact ⟨a0,by omega⟩
    rcases p4 hr with ⟨c,hr⟩|⟨c,hr⟩
    . exact xE hr
    . obtain rfl := sA hr;exact ⟨h,rfl⟩
  rw [if_neg c2] at hr
  by_cases c3 : t.op = 19
  . rw [if_pos c3] at hr
    unfold iG at hr
    rcases p4 hr with ⟨c,hr⟩|⟨c,hr⟩
    . obtain rfl := sA hr;exact ⟨a0,c.2.symm⟩
    rcases p4 hr with ⟨c,hr⟩|⟨c,hr⟩
    . exact xE hr
    rcases p4 hr with ⟨c,hr⟩|⟨c,hr⟩
    . exact xE hr
    rcases p4 hr with ⟨c,hr⟩|⟨c,hr⟩
    . exact xE hr
    rcases p4 hr with ⟨c,hr⟩|⟨c,hr⟩
    . exact xE hr
    . obtain rfl := sA hr;exact ⟨h,rfl⟩
  rw [if_neg c3] at hr
  by_cases c4 : t.op = 20 \/ t.op = 21
  . rw [if_pos c4] at hr
    unfold eG at hr
    rcases p4 hr with ⟨c,hr⟩|⟨c,hr⟩
    . obtain rfl := sA hr;exact ⟨a0,c.symm⟩
    rcases p4 hr with ⟨c,hr⟩|⟨c,hr⟩
    . exact xE hr
    . obtain rfl := sA hr;exact ⟨h,rfl⟩
  rw [if_neg c4] at hr
  by_cases c5 : t.op = 18
  . rw [if_pos c5] at hr
    unfold fG at hr
    rcases p4 hr with ⟨c,hr⟩|⟨c,hr⟩
    . exact xE hr
    . obtain rfl := sA hr;exact ⟨h,rfl⟩
  rw [if_neg c5] at hr
  have a1 := y4 h omG
  have fb := fun q=>fit_b h q
  have fr := fun q=>pI h q
  unfold a6 at hr
  rcases p4 hr with ⟨c,hr⟩|⟨c,hr⟩
  . exact xE hr
  rcases p4 hr with ⟨c,hr⟩|⟨c,hr⟩
  . obtain rfl := sA hr
    refine ⟨a1, ?_⟩
    by_cases q : t.op = 14
    . have := fr omG;omega
    . exact (fb omG).2
  rcases p4 hr with ⟨c,hr⟩|⟨c,hr⟩
  . obtain rfl := sA hr;exact ⟨qB (zero_word (d7 h)),rfl⟩
  rcases p4 hr with ⟨c,hr⟩|⟨c,hr⟩
  . obtain rfl := sA hr
    have := (fb omG).1
    rw [this]
    exact ⟨qB (qb7 (d7 h)),rfl⟩
  rcases p4 hr with ⟨c,hr⟩|⟨c,hr⟩
  . exact xE hr
  rcases p4 hr with ⟨c,hr⟩|⟨c,hr⟩
  . obtain rfl := sA hr;exact ⟨a0,(fb omG).1⟩
  rcases p4 hr with ⟨c,hr⟩|⟨c,hr⟩
  . obtain rfl := sA hr;exact ⟨qB (zero_word rfl),(fr omG).2.symm⟩
  rcases p4 hr with ⟨c,hr⟩|⟨c,hr⟩
  . obtain rfl := sA hr;exact ⟨a0,(fb omG).1⟩
  rcases p4 hr with ⟨c,hr⟩|⟨c,hr⟩
  . obtain rfl := sA hr;exact ⟨qB (zero_word (d7 h)),rfl⟩
  rcases p4 hr with ⟨c,hr⟩|⟨c,hr⟩
  . obtain rfl := sA hr;exact ⟨qB qkl,(fr omG).2.symm⟩
  rcases p4 hr with ⟨c,hr⟩|⟨c,hr⟩
  . exact xE hr
  . obtain rfl := sA hr;exact ⟨h,rfl⟩
theorem red_w {t x : V.Term} (hr : s5 t = (x,true)) : x.w = t.w := by
  unfold s5 at hr
  by_cases c1 : t.op = 1 \/ t.op = 2
  . rw [if_pos c1] at hr
    unfold dF at hr
    rcases p4 hr with ⟨_,hr⟩|⟨_,hr⟩ <;> exact b7 hr
  rw [if_neg c1] at hr
  by_cases c2 : t.op = 17
  . rw [if_pos c2] at hr
    unfold gG at hr
    rcases p4 hr with ⟨c,hr⟩|⟨c,hr⟩
    . exact b7 hr
    rcases p4 hr with ⟨c,hr⟩|⟨c,hr⟩
    . exact b7 hr
    rcases p4 hr with ⟨c,hr⟩|⟨c,hr⟩
    . exact b7 hr
    rcases p4 hr with ⟨c,hr⟩|⟨c,hr⟩
    . obtain rfl := oA hr;rfl
    rcases p4 hr with ⟨c,hr⟩|⟨c,hr⟩
    . exact b7 hr
    rcases p4 hr with ⟨c,hr⟩|⟨c,hr⟩
    . obtain rfl := oA hr;exact c.1.symm
    . exact b7 hr
  rw [if_neg c2] at hr
  by_cases c3 : t.op = 19
  . rw [if_pos c3] at hr
    unfold iG at hr
    rcases p4 hr with ⟨c,hr⟩|⟨c,hr⟩
    . exact b7 hr
    rcases p4 hr with ⟨c,hr⟩|⟨c,hr⟩
    . obtain rfl := oA hr;rfl
    rcases p4 hr with ⟨c,hr⟩|⟨c,hr⟩
    . obtain rfl := oA hr;rfl
    rcases p4 hr with ⟨c,hr⟩|⟨c,hr⟩
    . obtain rfl := oA hr;rfl
    rcases p4 hr with ⟨c,hr⟩|⟨c,hr⟩
    . obtain rfl := oA hr;rfl
    . exact b7 hr
  rw [if_neg c3] at hr
  by_cases c4 : t.op = 20 \/ t.op = 21
  . rw [if_pos c4] at hr
    unfold eG at hr
    rcases p4 hr with ⟨c,hr⟩|⟨c,hr⟩
    . exact b7 hr
    rcases p4 hr with ⟨c,hr⟩|⟨c,hr⟩
    . obtain rfl := oA hr;rfl
    . exact b7 hr
  rw [if_neg c4] at hr
  by_cases c5 : t.op = 18
  . rw [if_pos c5] at hr
    unfold fG at hr
    rcases p4 hr with ⟨c,hr⟩|⟨c,hr⟩
    . obtain rfl := oA hr;rfl
    . exact b7 hr
  rw [if_neg c5] at hr
  unfold a6 at hr
  rcases p4 hr with ⟨c,hr⟩|⟨c,hr⟩
  . obtain rfl := oA hr;rfl
  rcases p4 hr with ⟨c,hr⟩|⟨c,hr⟩
  . exact b7 hr
  rcases p4 hr with ⟨c,hr⟩|⟨c,hr⟩
  . exact b7 hr
  rcases p4 hr with ⟨c,hr⟩|⟨c,hr⟩
  . exact b7 hr
  rcases p4 hr with ⟨c,hr⟩|⟨c,hr⟩
  . obtain rfl := oA hr;rfl
  rcases p4 hr with ⟨c,hr⟩|⟨c,hr⟩
  . exact b7 hr
  rcases p4 hr with ⟨c,hr⟩|⟨c,hr⟩
  . exact b7 hr
  rcases p4 hr with ⟨c,hr⟩|⟨c,hr⟩
  . exact b7 hr
  rcases p4 hr with ⟨c,hr⟩|⟨c,hr⟩
  . exact b7 hr
  rcases p4 hr with ⟨c,hr⟩|⟨c,hr⟩
  . exact b7 hr
  rcases p4 hr with ⟨c,hr⟩|⟨c,hr⟩
  . obtain rfl := oA hr;rfl
  . exact b7 hr
theorem yV : ∀ (f : Nat) (t : V.Term),okT t = true -> okT (dA f t) = true /\ (dA f t).w = t.w
  | 0,t,h=>⟨h,rfl⟩
  | f + 1,t,h=>by
    rw [dA]
    by_cases c1 : t.kids.length = 0
    . rw [if_pos c1];exact ⟨h,rfl⟩
    rw [if_neg c1]
    have ho : 1 <= t.op /\ t.op <= 21 := yH h (fun e=>c1 (by rw [e];rfl))
    by_cases c2 : k5 t.kids = true
    . rw [if_pos c2];exact ⟨qB (ap_w h ho c2),rfl⟩
    rw [if_neg c2]
    by_cases c3 : (s5 t).2 = true
    . rw [if_pos c3]
      have h1 := m9 (x := (s5 t).1) h ho (Prod.ext rfl c3)
      have h2 := red_w (x := (s5 t).1) (Prod.ext rfl c3)
      have h3 := yV f _ h1.1
      exact ⟨h3.1,h3.2.trans h2⟩
    . rw [if_neg c3]
      exact red_no (x := (s5 t).1) h ho (Prod.ext rfl (by simpa using c3))
theorem qcs {t : V.Term} (h : okT t = true) : okT (j4 t) = true := (yV _ t h).1
theorem mkT_w {t : V.Term} (h : okT t = true) : (j4 t).w = t.w := (yV _ t h).2
theorem qlj {s : ByteArray} (h : isNameP s = true) : s.size <= 8 := by
  rw [isNameP,Bool.and_eq_true,k6] at h
  omega
mutual
theorem okT_nmT : ∀ {t : V.Term},okT t = true -> nmT t = true
  | ⟨op,w,n,nm,ks⟩,h=>by
    have h1 := aR h
    have h2 : nm.size <= 1048576 := by
      by_cases e : op = 22
      . rw [aH,Bool.and_eq_true,Bool.and_eq_true] at h
        have := h.1.2
        simp only [e,decide_true,Bool.not_true,Bool.false_or] at this
        have := qlj this
        omega
      . rw [show nm = ByteArray.empty from pN h e];decide
    rw [eR,Bool.and_eq_true]
    exact ⟨decide_eq_true h2,iV h1⟩
theorem iV : ∀ {ks : List V.Term},okTs ks = true -> lF ks = true
  | [],_=>by rw [lF]
  | t :: ts,h=>by
    rw [okTs,Bool.and_eq_true] at h
    rw [lF,okT_nmT h.1,iV h.2];rfl
end
theorem nmT_o {op w n : Int} {ks : List V.Term} (h : lF ks = true) : nmT (oT op w n ks) = true := by
  rw [eR,Bool.and_eq_true]
  exact ⟨decide_eq_true (by show ByteArray.empty.size <= 1048576;decide),h⟩
theorem termP_ok {t : V.Term} (h : i7 t = true) : okT t = true := by
  unfold i7 at h
  simp only [Bool.and_eq_true] at h
  exact h.1.2
/-! ### making a term -/
noncomputable def s1 (op w n : Int) (ks : List V.Term) : V.Term × Bool := if i7 (oT op w n ks) = true then (j4 (oT op w n ks),true) else (zT,false)
theorem xV {op w n : Int} {ks : List V.Term} (h : i7 (oT op w n ks) = false) : s1 op w n ks = (zT,false) := by unfold s1;rw [if_neg (by rw [h];decide)]
theorem wV {op w n : Int} {ks : List V.Term} (h : i7 (oT op w n ks) = true) : s1 op w n ks = (j4 (oT op w n ks),true) := by unfold s1;rw [if_pos h]
theorem mp_y {B : List Blk} {X : AV} {op w n : Int} {ks : List V.Term} (h : ∀ y,s1 op w n ks = y -> frzM B (i5 y.1) X) : frzM B (i5 (s1 op w n ks).1) X := h _ rfl
theorem mp_b {B : List Blk} {X : AV} {op w n : Int} {ks : List V.Term} (h : ∀ y,s1 op w n ks = y -> frzM B (.dat (.bool y.2)) X) : frzM B (.dat (.bool (s1 op w n ks).2)) X := h _ rfl
theorem jO (op w n : Int) (ks : List V.Term) : CallsV Tryz.prog 124 [.dat (.i op),.dat (.i w),.dat (.i n),.dat (.seq .terms ks)] (.tup [i5 (s1 op w n ks).1,.dat (.bool (s1 op w n ks).2)]) := by
  refine oV Tryz.func124 ⟨?_⟩
  repeat' (first|((with_reducible refine fun (K1 : KT) hK=>?_);refine k7 ⟨?_⟩)|((with_reducible show K1 _ _);subst hK;conv=>whnf)|refine st0 ⟨?_⟩|((with_reducible refine SplS.mk (fun h=>?_) (fun h=>?_)) <;> first|exact yC|(conv=>whnf))|refine f2 ⟨?_⟩ ⟨?_⟩|refine vP (vR ..) ⟨?_⟩|refine vP (ql5 (hk := ?_) ..) ⟨?_⟩|fail)
  all_goals repeat clear hK K1
  all_goals first|exact True.intro|exact termP_ok asmR|((first|refine mp_y fun y hz=>?_|refine mp_b fun y hz=>?_);(first|rw [xV asmR] at hz|rw [wV asmR] at hz);subst hz;first|exact rfl|exact fr5M (V.Term.eta _).symm|exact fr5M rfl|exact fr5Mn rfl)|skip
theorem qb8 {ks : List V.Term} {k : Nat} (h : (k : Int) < ks.length) (hk : okTs ks = true) : okT ⟨(ks.getD (k : Int).toNat K.terms.dflt).op,(ks.getD (k : Int).toNat K.terms.dflt).w,(ks.getD (k : Int).toNat K.terms.dflt).n,(ks.getD (k : Int).toNat K.terms.dflt).name,(ks.getD (k : Int).toNat K.terms.dflt).kids⟩ = true := by
  rw [V.Term.eta]
  exact gF (i := k) hk omG
theorem sz_at : ∀ {ks : List V.Term} {i : Nat},i < ks.length -> sizeT (kAt ks i) <= g6 ks
  | t :: ts,0,_=>by rw [g6];show sizeT t <= _;omega
  | t :: ts,i + 1,h=>by
    have := sz_at (ks := ts) (i := i) (by simpa using h)
    rw [g6]
    show sizeT (kAt ts i) <= _
    omega
theorem sz_kid {t : V.Term} {k : Nat} (h : (k : Int) < t.kids.length) : sizeT ⟨(t.kids.getD (k : Int).toNat K.terms.dflt).op,(t.kids.getD (k : Int).toNat K.terms.dflt).w,(t.kids.getD (k : Int).toNat K.terms.dflt).n,(t.kids.getD (k : Int).toNat K.terms.dflt).name,(t.kids.getD (k : Int).toNat K.terms.dflt).kids⟩ < sizeT t := by
  rw [V.Term.eta,dJ t]
  have := sz_at (ks := t.kids) (i := k) omG
  show sizeT (kAt t.kids k) < _
  omega
theorem qaj {ks : List V.Term} {k : Nat} (h : (k : Int) < ks.length) : ks.take (k + 1) = ks.take k ++ [⟨(ks.getD (k : Int).toNat K.terms.dflt).op,(ks.getD (k : Int).toNat K.terms.dflt).w,(ks.getD (k : Int).toNat K.terms.dflt).n,(ks.getD (k : Int).toNat K.terms.dflt).name,(ks.getD (k : Int).toNat K.terms.dflt).kids⟩] := by
  have hk : k < ks.length := by omega
  have e : ks.getD (k : Int).toNat K.terms.dflt = ks[k] := by
    rw [Int.toNat_natCast,List.getD_eq_getElem?_getD,List.getElem?_eq_getElem hk];rfl
  rw [V.Term.eta,e,List.take_add_one,List.getElem?_eq_getElem hk]
  rfl
theorem zP {ks : List V.Term} {k : Nat} (hk : k <= ks.length) : (ks.take k).length = k := by simp;omega
structure IHCp (t : V.Term) : Prop where
  call : ∀ (op w n : Int) (nm : ByteArray) (ks : List V.Term),okT ⟨op,w,n,nm,ks⟩ = true -> sizeT ⟨op,w,n,nm,ks⟩ < sizeT t ->
    CallsV Tryz.prog 132 [.agg [.dat (.i op),.dat (.i w),.dat (.i n),.dat (.str nm),.dat (.seq .terms ks)]] (i5 ⟨op,w,n,nm,ks⟩)
theorem ih_cp {t : V.Term} (ih : IHCp t) {op w n : Int} {nm : ByteArray} {ks : List V.Term} (hk : okT ⟨op,w,n,nm,ks⟩ = true) (hm : sizeT ⟨op,w,n,nm,ks⟩ < sizeT t) :
    CallsV Tryz.prog 132 [.agg [.dat (.i op),.dat (.i w),.dat (.i n),.dat (.str nm),.dat (.seq .terms ks)]] (i5 ⟨op,w,n,nm,ks⟩) := ih.call op w n nm ks hk hm
theorem s_Copy0 (t : V.Term) (ih : IHCp t) (ht : okT t = true) : CallsV Tryz.prog 132 [.agg [.dat (.i t.op),.dat (.i t.w),.dat (.i t.n),.dat (.str t.name),.dat (.seq .terms t.kids)]] (i5 t) := by
  refine oV Tryz.func132 ⟨?_⟩
  repeat' (first|((with_reducible refine fun (K1 : KT) hK=>?_);refine k7 ⟨?_⟩)|((with_reducible show K1 _ _);subst hK;conv=>whnf)|(with_reducible refine a8 ?_)|(with_reducible exact rfl)|refine st0 ⟨?_⟩|((with_reducible refine SplS.mk (fun h=>?_) (fun h=>?_)) <;> first|exact o4|(subst h;conv=>whnf)|(conv=>whnf))|refine f2 ⟨?_⟩ ⟨?_⟩|(refine y5 ({k : Nat // k <= t.kids.length}) (fun ⟨k,hk⟩=>x5 Tryz.f132.ntmps [(1,.ptr 1 0),(2,.ptr 2 0),(3,.row 3),(8,.dat (.seq .terms t.kids)),(9,.dat (.i t.kids.length)),(10,.dat (.i k))] [(1,.box [.dat (.i t.op),.dat (.i t.w),.dat (.i t.n),.dat (.str t.name),.dat (.seq .terms t.kids)]),(2,.box [.dat (.i 0),.dat (.i 0),.dat (.i 0),.dat (.str ByteArray.empty),.nils]),(3,.row 90 .terms (t.kids.take k) false)]) (fun ⟨k,hk⟩=>t.kids.length - k) ⟨0,Nat.zero_le _⟩ (SubP.sub (σ := [(1,some 1),(2,some 2),(3,some 6)]) ⟨⟨rfl,rfl,rfl⟩,⟨rr,rr,rfl,o0 ?_,o0 ?_,o0 ?_,trivial⟩,⟨⟨j0 ?_,j0 ?_,j0 ?_,j0 ?_,j0 ?_,trivial⟩,⟨j0 ?_,j0 ?_,j0 ?_,j0 ?_,trivial,trivial⟩,⟨rr, ?_⟩,trivial⟩⟩) (fun ⟨k,hk⟩=>?_);rotate_right;conv=>whnf)|(refine b6 (⟨k + 1, ?_⟩ : {k : Nat // k <= t.kids.length}) ?_ (SubP.sub (σ := [(1,some 1),(2,some 2),(3,some 18)]) ⟨⟨rfl,rfl,rfl⟩,⟨rr,rr,rfl,o0 ?_,o0 ?_,o0 ?_,trivial⟩,⟨⟨j0 ?_,j0 ?_,j0 ?_,j0 ?_,j0 ?_,trivial⟩,⟨j0 ?_,j0 ?_,j0 ?_,j0 ?_,trivial,trivial⟩,⟨rr, ?_⟩,trivial⟩⟩))|refine vP (ih_cp (ih := by assumption) (hk := ?_) (hm := ?_) ..) ⟨?_⟩|(intro h;conv=>whnf))
  all_goals repeat clear hK K1
  all_goals first|((with_reducible show (_ : Int) <= _);omega)|((with_reducible show (_ : Int) < _);with_reducible assumption)|((with_reducible show okT _ = true);exact qb8 asmR (aR ht))|((with_reducible show sizeT _ < _);exact sz_kid asmR)|((with_reducible show (_ : Nat) < _);(dsimp only;omega))|(have l3 := mL ht;exact wr_s omG)|exact congrArg (Sigma.mk K.terms) ((qaj asmR).trans rfl)|((with_reducible show _ * _ <= _);have l3 := mL ht;have l4 := zP (ks := t.kids) hk;rw [l4];exact Nat.le_trans (Nat.mul_le_mul_right _ (show k + 1 <= 4 by omega)) (by decide))|((with_reducible show _ + _ <= _);have l3 := mL ht;have l4 := zP (ks := t.kids) hk;rw [l4];show k + 1 <= 2 ^ 63 - 1;omega)|((with_reducible show _ <= _);omega)|exact rfl|exact ⟨rfl,rfl,rfl,rfl,congrArg (Dat.seq K.terms) (wT (ks := t.kids) (k := k) omG).symm,True.intro⟩|skip
theorem qbc (op w n : Int) (nm : ByteArray) (ks : List V.Term) (hk : okT ⟨op,w,n,nm,ks⟩ = true) :
    CallsV Tryz.prog 132 [.agg [.dat (.i op),.dat (.i w),.dat (.i n),.dat (.str nm),.dat (.seq .terms ks)]] (i5 ⟨op,w,n,nm,ks⟩) := by
  have key : ∀ (k : Nat) (t : V.Term),sizeT t < k -> okT t = true ->
      CallsV Tryz.prog 132 [.agg [.dat (.i t.op),.dat (.i t.w),.dat (.i t.n),.dat (.str t.name),.dat (.seq .terms t.kids)]] (i5 t) := by
    intro k
    induction k with
    | zero=>intro t h;exact absurd h (Nat.not_lt_zero _)
    | succ k ih =>
      intro t h ht
      exact s_Copy0 t ⟨fun op w n nm ks hk hs=>ih ⟨op,w,n,nm,ks⟩ omG hk⟩ ht
  exact key _ ⟨op,w,n,nm,ks⟩ (Nat.lt_succ_self _) hk
theorem okT_mk (t : V.Term) (h : okT t = true) : okT ⟨(j4 t).op,(j4 t).w,(j4 t).n,(j4 t).name,(j4 t).kids⟩ = true := by
  rw [V.Term.eta];exact qcs h
theorem qjr (op w n : Int) (ks : List V.Term) (hn : lF ks = true) : CallsV Tryz.prog 101 [.dat (.i op),.dat (.i w),.dat (.i n),.dat (.seq .terms ks)] (.tup [i5 (s1 op w n ks).1,.dat (.bool (s1 op w n ks).2)]) := by
  refine oV Tryz.func101 ⟨?_⟩
  repeat' (first|((with_reducible refine fun (K1 : KT) hK=>?_);refine k7 ⟨?_⟩)|((with_reducible show K1 _ _);subst hK;conv=>whnf)|refine st0 ⟨?_⟩|((with_reducible refine SplS.mk (fun h=>?_) (fun h=>?_)) <;> first|exact yC|(conv=>whnf))|refine f2 ⟨?_⟩ ⟨?_⟩|refine vP (qjl (hn := ?_) ..) ⟨?_⟩|refine vP (qbc (hk := ?_) ..) ⟨?_⟩|refine vP (qje (hk := ?_) ..) ⟨?_⟩|fail)
  all_goals repeat clear hK K1
  all_goals first|exact True.intro|exact nmT_o hn|exact termP_ok asmR|exact okT_mk _ (termP_ok asmR)|((first|refine mp_y fun y hz=>?_|refine mp_b fun y hz=>?_);(first|rw [xV asmR] at hz|rw [wV asmR] at hz);subst hz;first|exact rfl|exact fr5M (V.Term.eta _).symm|exact fr5M rfl|exact fr5Mn rfl)|skip
end Vg
