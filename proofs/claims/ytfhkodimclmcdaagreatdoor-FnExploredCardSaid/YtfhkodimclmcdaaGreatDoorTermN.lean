/- Terms are checked: nodes, variables and all, by the reference. Condition: names are no longer than a law lets through. -/
import Derived.Test.YtfhkodimclmcdaaGreatDoorTermS
import Derived.Test.YtfhkodimclmcdaaGreatDoorRedQ
namespace Vg
open Go Go.Proofs
set_option maxRecDepth 100000
set_option maxHeartbeats 40000000
theorem c_few (op w n : Int) (nm : ByteArray) (ks : List V.Term) (l : Int) (hl : 0 <= l /\ l <= 240) :
    CallsG Tryz.prog 136 [.agg [.dat (.i op),.dat (.i w),.dat (.i n),.dat (.str nm),.dat (.seq .terms ks)],.ptr 0 0] [.box [.dat (.i l)]] 1
      (fun res B=>res = .dat (.bool (decide (fewT ⟨op,w,n,nm,ks⟩ l >= 0))) /\ B = [.box [.dat (.i (fewT ⟨op,w,n,nm,ks⟩ l))]]) := by
  have key : ∀ (k : Nat) (t : V.Term) (l : Int),sizeT t < k -> 0 <= l /\ l <= 240 ->
      CallsG Tryz.prog 136 [.agg [.dat (.i t.op),.dat (.i t.w),.dat (.i t.n),.dat (.str t.name),.dat (.seq .terms t.kids)],.ptr 0 0] [.box [.dat (.i l)]] 1
        (fun res B=>res = .dat (.bool (decide (fewT t l >= 0))) /\ B = [.box [.dat (.i (fewT t l))]]) := by
    intro k
    induction k with
    | zero=>intro t _ h;omega
    | succ k ih =>
      intro t l h hl
      exact c_few0 t l ⟨fun op w n nm ks l' hl' hs=>ih ⟨op,w,n,nm,ks⟩ l' omG hl'⟩ hl
  exact key _ ⟨op,w,n,nm,ks⟩ l (Nat.lt_succ_self _) hl
/-! ### names are short -/
mutual
def nmT : V.Term -> Bool
  | ⟨_,_,_,nm,ks⟩=>decide (nm.size <= 1048576) && lF ks
def lF : List V.Term -> Bool
  | []=>true
  | t :: ts=>nmT t && lF ts
end
theorem eR (t : V.Term) : nmT t = (decide (t.name.size <= 1048576) && lF t.kids) := by cases t;rw [nmT]
theorem nmT_n {t : V.Term} (h : nmT t = true) : t.name.size <= 1048576 := by
  rw [eR,Bool.and_eq_true] at h
  exact of_decide_eq_true h.1
theorem qcg : ∀ {ks : List V.Term} {i : Nat},lF ks = true -> i < ks.length -> nmT (kAt ks i) = true
  | t :: ts,0,h,_=>by rw [lF,Bool.and_eq_true] at h;exact h.1
  | t :: ts,i + 1,h,hi=>by
    rw [lF,Bool.and_eq_true] at h
    exact qcg (ks := ts) h.2 (by simpa using hi)
theorem nm_kid {t : V.Term} {i : Nat} (h : nmT t = true) (hi : (i : Int) < t.kids.length) : nmT (kE t.kids i) = true := by
  rw [nD]
  rw [eR,Bool.and_eq_true] at h
  exact qcg h.2 omG
theorem kV : ∀ {ks : List V.Term},okTs ks = ks.all okT
  | []=>by rw [okTs];rfl
  | t :: ts=>by rw [okTs,List.all_cons,kV]
theorem mV {t : V.Term} (h : ¬ NodeOk t.op t.w t.n t.name t.kids) : okT t = false := by
  rw [aH]
  have : lD t.op t.w t.n t.name t.kids = false := by
    rw [Bool.eq_false_iff]
    intro e
    exact h (rC.1 e)
  rw [this];rfl
section
variable {t : V.Term}
theorem oN_w (h : inP t.w 1 16 = false) : okT t = false := mV fun k=>by have := k.width;rw [h] at this;cases this
theorem oN_nm (ho : ¬ t.op = 22) (h : (t.name.toList == (⟨#[]⟩ : ByteArray).toList) = false) : okT t = false := mV fun k=>bQ h (k.nam ho)
theorem oN_n (ho : ¬ t.op = 0) (h9 : ¬ t.op = 19) (h : ¬ t.n = 0) : okT t = false := mV fun k=>h (k.num ho h9)
theorem oN_k {i : Nat} (hi : (i : Int) < t.kids.length) (h : okT (kE t.kids i) = false) : okT t = false := by
  rw [nD] at h
  rw [aH]
  cases e : okTs t.kids with
  | false=>simp
  | true =>
    have := gF e (i := i) omG
    rw [h] at this
    cases this
theorem ok_s {ks : List V.Term} {i : Nat} (h : i <= ks.length /\ okTs (ks.take i) = true) (hi : (i : Int) < ks.length) (hk : okT (kE ks i) = true) : i + 1 <= ks.length /\ okTs (ks.take (i + 1)) = true := by
  rw [nD] at hk
  refine ⟨by omega, ?_⟩
  have h2 := h.2
  rw [kV] at h2 ⊢
  rw [lH K.terms.dflt hi,h2]
  exact hk
theorem ok_e {ks : List V.Term} {i : Nat} (h : i <= ks.length /\ okTs (ks.take i) = true) (hi : ¬ (i : Int) < ks.length) : okTs ks = true := by
  have := h.2
  rwa [List.take_of_length_le omG] at this
theorem okT_is (hk : okTs t.kids = true) (h1 : inP t.w 1 16 = true) (h6 : t.op ≠ 0 -> t.op ≠ 19 -> t.n = 0) (h7 : t.op ≠ 22 -> t.name = ByteArray.empty) :
    okT t = (decide ((t.kids.length : Int) = nA t.op) && (qA t.op t.w t.n t.kids && ((!decide (t.op = 0) || wordP t.w t.n) && (!decide (t.op = 22) || isNameP t.name)))) := by
  rw [aH,hk,Bool.and_true,Bool.eq_iff_iff]
  simp only [Bool.and_eq_true,rC,decide_eq_true_eq,Bool.or_eq_true,Bool.not_eq_true',decide_eq_false_iff_not]
  constructor
  . rintro ⟨k,hn⟩
    exact ⟨k.len,k.fit,(by by_cases e : t.op = 0;exact .inr (k.const e);exact .inl e),hn⟩
  . rintro ⟨a,b,c,d⟩
    refine ⟨⟨h1,a, ?_,b,fun e=>c.resolve_left (fun q=>q e),h6,h7⟩,d⟩
    rw [List.all_eq_true]
    intro x hx
    rw [kV,List.all_eq_true] at hk
    exact k6.2 (f8 (hk x hx))
end
/-! ### the widths of the kids -/
def wAt (ks : List V.Term) (j i : Nat) : Int := if i < j then (kAt ks i).w else 0
def aJ (ks : List V.Term) (j : Nat) : List Int := [wAt ks j 0,wAt ks j 1,wAt ks j 2]
theorem ws_s {ks : List V.Term} {j : Nat} (h : j < 3) : (aJ ks j).set j (kAt ks j).w = aJ ks (j + 1) := by
  have : j = 0 \/ j = 1 \/ j = 2 := by omega
  rcases this with rfl|rfl|rfl <;> rfl
theorem ws_e {ks : List V.Term} {j : Nat} (hk : okTs ks = true) (hj : j <= ks.length /\ j <= 3) (h : ¬ (j : Int) < ks.length \/ ¬ (j : Int) < 3) :
    (1 <= ks.length -> wAt ks j 0 = (kAt ks 0).w /\ 1 <= (kAt ks 0).w /\ (kAt ks 0).w <= 16) /\ (2 <= ks.length -> wAt ks j 1 = (kAt ks 1).w /\ 1 <= (kAt ks 1).w /\ (kAt ks 1).w <= 16) /\ (3 <= ks.length -> wAt ks j 2 = (kAt ks 2).w /\ 1 <= (kAt ks 2).w /\ (kAt ks 2).w <= 16) := by
  unfold wAt
  refine ⟨fun h1=>⟨if_pos omG,f8 (gF hk omG)⟩,fun h1=>⟨if_pos omG,f8 (gF hk omG)⟩,fun h1=>⟨if_pos omG,f8 (gF hk omG)⟩⟩
structure IHNd (t : V.Term) : Prop where
  call : ∀ (op w n : Int) (nm : ByteArray) (ks : List V.Term),nmT ⟨op,w,n,nm,ks⟩ = true -> sizeT ⟨op,w,n,nm,ks⟩ < sizeT t ->
    CallsV Tryz.prog 137 [.agg [.dat (.i op),.dat (.i w),.dat (.i n),.dat (.str nm),.dat (.seq .terms ks)]] (.dat (.bool (okT ⟨op,w,n,nm,ks⟩)))
theorem ih_nd {t : V.Term} (ih : IHNd t) {op w n : Int} {nm : ByteArray} {ks : List V.Term} (hn : nmT ⟨op,w,n,nm,ks⟩ = true) (hs : sizeT ⟨op,w,n,nm,ks⟩ < sizeT t) :
    CallsV Tryz.prog 137 [.agg [.dat (.i op),.dat (.i w),.dat (.i n),.dat (.str nm),.dat (.seq .terms ks)]] (.dat (.bool (okT ⟨op,w,n,nm,ks⟩))) := ih.call op w n nm ks hn hs
theorem qjc (t : V.Term) (ih : IHNd t) (hn : nmT t = true) : CallsV Tryz.prog 137 [.agg [.dat (.i t.op),.dat (.i t.w),.dat (.i t.n),.dat (.str t.name),.dat (.seq .terms t.kids)]] (.dat (.bool (okT t))) := by
  refine oV Tryz.func137 ⟨?_⟩
  repeat' (first|((with_reducible refine fun (K1 : KT) hK=>?_);refine w5 ⟨?_⟩)|((with_reducible show K1 _ _);subst hK;conv=>whnf)|(with_reducible exact rfl)|refine st0 ⟨?_⟩|((with_reducible refine SplS.mk (fun h=>?_) (fun h=>?_)) <;> first|exact u5|(subst h;conv=>whnf)|(conv=>whnf))|refine f2 ⟨?_⟩ ⟨?_⟩|(refine y5 ({j : Nat // j <= t.kids.length /\ j <= 3}) (fun ⟨j,hj⟩=>x5 Tryz.f137.ntmps [(1,.ptr 1 0),(3,.dat (.i t.kids.length)),(6,.row 51),(7,.dat (.i j))] [(1,.box [.dat (.i t.op),.dat (.i t.w),.dat (.i t.n),.dat (.str t.name),.dat (.seq .terms t.kids)]),(51,.row 3 .ints (aJ t.kids j) false)]) (fun ⟨j,hj⟩=>3 - j) ⟨0,⟨Nat.zero_le _,Nat.zero_le _⟩⟩ (SubP.sub (σ := [(1,some 1),(51,some 51)]) ⟨⟨rfl,rfl,rfl⟩,⟨rr,o0 ?_,rfl,o0 ?_,trivial⟩,⟨⟨j0 ?_,j0 ?_,j0 ?_,j0 ?_,j0 ?_,trivial⟩,⟨rr, ?_⟩,trivial⟩⟩) (fun ⟨j,hj⟩=>?_);rotate_right;conv=>whnf)|(refine b6 (⟨j + 1, ?_⟩ : {j : Nat // j <= t.kids.length /\ j <= 3}) ?_ (SubP.sub (σ := [(1,some 1),(51,some 51)]) ⟨⟨rfl,rfl,rfl⟩,⟨rr,o0 ?_,rfl,o0 ?_,trivial⟩,⟨⟨j0 ?_,j0 ?_,j0 ?_,j0 ?_,j0 ?_,trivial⟩,⟨rr, ?_⟩,trivial⟩⟩))|(refine y5 ({i : Nat // i <= t.kids.length /\ okTs (t.kids.take i) = true}) (fun ⟨i,hi⟩=>x5 Tryz.f137.ntmps [(1,.ptr 1 0),(3,.dat (.i t.kids.length)),(41,.dat (.seq .terms t.kids)),(42,.dat (.i t.kids.length)),(43,.dat (.i i))] [(1,.box [.dat (.i t.op),.dat (.i t.w),.dat (.i t.n),.dat (.str t.name),.dat (.seq .terms t.kids)])]) (fun ⟨i,hi⟩=>t.kids.length - i) ⟨0,⟨Nat.zero_le _,by rw [List.take_zero,okTs]⟩⟩ (SubP.sub (σ := [(1,some 1)]) ⟨⟨rfl,rfl,rfl⟩,⟨rr,o0 ?_,o0 ?_,o0 ?_,o0 ?_,trivial⟩,⟨⟨j0 ?_,j0 ?_,j0 ?_,j0 ?_,j0 ?_,trivial⟩,trivial⟩⟩) (fun ⟨i,hi⟩=>?_);rotate_right;conv=>whnf)|(refine b6 (⟨i + 1, ?_⟩ : {i : Nat // i <= t.kids.length /\ okTs (t.kids.take i) = true}) ?_ (SubP.sub (σ := [(1,some 1)]) ⟨⟨rfl,rfl,rfl⟩,⟨rr,o0 ?_,o0 ?_,o0 ?_,o0 ?_,trivial⟩,⟨⟨j0 ?_,j0 ?_,j0 ?_,j0 ?_,j0 ?_,trivial⟩,trivial⟩⟩))|refine vS (zA ..) ⟨?_⟩|refine vP (ih_nd (ih := by assumption) (hn := ?_) (hs := ?_) ..) ⟨?_⟩|refine vP (dG ..) ⟨?_⟩|refine vP (qjt (hs := ?_) ..) ⟨?_⟩|(intro h;conv=>whnf))
  all_goals repeat clear hK K1
  all_goals first|exact di_eq (rfl : ((0 : Nat) : Int) = 0)|(have hm : maxLen = 9223372036854775807 := rfl;refine di_eq ?_;rw [j3 omG omG];omega)|exact nm_kid hn asmR|(rw [V.Term.eta];exact gJ asmR)|exact (ok_s hi asmR asmR).2|exact nmT_n hn|(refine congrArg (Sigma.mk K.ints) ?_;first|exact (ws_s omG).symm|rfl)|(have e : (aJ t.kids j).length = 3 := rfl;rw [e];omega)|(have hk := ok_e hi asmR;have hw := (show inP t.w 1 16 = true by with_reducible assumption);have p := ws_e hk hj (by first|exact .inl asmR|exact .inr asmR);refine db_eq ?_;rw [okT_is hk hw (fun e1 e2=>(by first|(with_reducible assumption)|exact absurd asmR e1|exact absurd asmR e2)) (fun e=>(by first|exact yT asmR|exact absurd asmR e))];have q0 : (aJ t.kids j).getD (Int.toNat 0) K.ints.dflt = wAt t.kids j 0 := rfl;have q1 : (aJ t.kids j).getD (Int.toNat 1) K.ints.dflt = wAt t.kids j 1 := rfl;have q2 : (aJ t.kids j).getD (Int.toNat 2) K.ints.dflt = wAt t.kids j 2 := rfl;have hw' := nF hw;simp only [q0,q1,q2] at *;clear q0 q1 q2 hk hw hi hn ih;have p0 := p.1;have p1 := p.2.1;have p2 := p.2.2;generalize wAt t.kids j 0 = y0 at *;generalize wAt t.kids j 1 = y1 at *;generalize wAt t.kids j 2 = y2 at *;unfold nA qA;generalize (kAt t.kids 0).w = x0 at *;generalize (kAt t.kids 1).w = x1 at *;generalize (kAt t.kids 2).w = x2 at *;generalize isNameP t.name = bN at *;generalize wordP t.w t.n = bW at *;rw [Bool.eq_iff_iff];simp only [inP,Bool.and_eq_true,Bool.and_eq_false_iff,decide_eq_true_eq,decide_eq_false_iff_not,Bool.false_eq_true,iff_false,beq_iff_eq] at *;(try rw [j3 omG omG]);clear p;(repeat' split) <;> first|omega|(simp only [Bool.and_eq_true,Bool.or_eq_true,Bool.not_eq_true',decide_eq_true_eq,decide_eq_false_iff_not];omega)|(cases bN <;> cases bW <;> first|(simp;done)|(simp;omega)|(simp [*];done)|(simp [*];omega)))|exact db_eq (oN_w asmR)|exact db_eq (oN_nm asmR asmR)|exact db_eq (oN_n asmR asmR asmR)|exact db_eq (oN_k asmR asmR)|omega|(dsimp only;omega)|skip
theorem qjd (op w n : Int) (nm : ByteArray) (ks : List V.Term) (hn : nmT ⟨op,w,n,nm,ks⟩ = true) :
    CallsV Tryz.prog 137 [.agg [.dat (.i op),.dat (.i w),.dat (.i n),.dat (.str nm),.dat (.seq .terms ks)]] (.dat (.bool (okT ⟨op,w,n,nm,ks⟩))) := by
  have key : ∀ (k : Nat) (t : V.Term),sizeT t < k -> nmT t = true ->
      CallsV Tryz.prog 137 [.agg [.dat (.i t.op),.dat (.i t.w),.dat (.i t.n),.dat (.str t.name),.dat (.seq .terms t.kids)]] (.dat (.bool (okT t))) := by
    intro k
    induction k with
    | zero=>intro t h;omega
    | succ k ih =>
      intro t h hn
      exact qjc t ⟨fun op w n nm ks hn' hs=>ih ⟨op,w,n,nm,ks⟩ omG hn'⟩ hn
  exact key _ ⟨op,w,n,nm,ks⟩ (Nat.lt_succ_self _) hn
end Vg
