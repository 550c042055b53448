/- The reference makes terms simple: small functions. Condition: the term is good. -/
import Derived.Test.YtfhkodimclmcdaaGreatDoorTermXC
namespace Vg
open Go Go.Proofs
set_option maxRecDepth 100000
set_option maxHeartbeats 40000000
theorem pK {n lo hi : Int} {A B : Prop} (hn : inP n lo hi = false) (h2 : B) : (inP n lo hi = true -> A) /\ (inP n lo hi = false -> B) := ⟨fun h=>(by rw [hn] at h;cases h),fun _=>h2⟩
theorem sp_iT {n lo hi : Int} {A B : Prop} (hn : inP n lo hi = true) (h1 : A) : (inP n lo hi = true -> A) /\ (inP n lo hi = false -> B) := ⟨fun _=>h1,fun h=>(by rw [hn] at h;cases h)⟩
theorem gQ {n lo hi : Int} {A B : Prop} (hn : inP n lo hi = false) (h2 : B) : (inP n lo hi = false -> B) /\ (inP n lo hi = true -> A) := ⟨fun _=>h2,fun h=>(by rw [hn] at h;cases h)⟩
theorem sp_iT' {n lo hi : Int} {A B : Prop} (hn : inP n lo hi = true) (h1 : A) : (inP n lo hi = false -> B) /\ (inP n lo hi = true -> A) := ⟨fun h=>(by rw [hn] at h;cases h),fun _=>h1⟩
theorem nz {a b : Prop} (h0 : a) (h : ¬ (a /\ b)) : ¬ b := fun q=>h ⟨h0,q⟩
theorem yz {a b : Prop} (_h0 : a) (h : a /\ b) : b := h.2
theorem rM {a b : Prop} (h : ¬ a) : ¬ (a /\ b) := fun q=>h q.1
theorem oE {a b : Prop} (h : ¬ b) : ¬ (a /\ b) := fun q=>h q.2
theorem lM {a b : V.Term} (h : cmpT a b > 0) : cmpT a b = 1 := by
  rcases qgc a b with q|q|q <;> omega
theorem d8 {a b : V.Term} (h : ¬ cmpT a b > 0) : ¬ cmpT a b = 1 := by omega
theorem cG (w n : Int) : CallsV Tryz.prog 59 [.dat (.i w),.dat (.i n)] (.agg [.dat (.i 0),.dat (.i w),.dat (.i n),.dat (.str ByteArray.empty),.dat (.seq .terms [])]) := by
  refine oV Tryz.func59 ⟨?_⟩
  repeat' (first|((with_reducible refine fun (K1 : KT) hK=>?_);refine r3 ⟨?_⟩)|((with_reducible show K1 _ _);subst hK;conv=>whnf)|(with_reducible refine a8 ?_)|refine st0 ⟨?_⟩|fail)
  all_goals repeat clear hK K1
  all_goals first|exact ⟨gH (t := cT w n) rfl⟩|exact rfl|exact True.intro|skip
theorem oC (op w n : Int) (nm : ByteArray) (ks : List V.Term) (m : Int) : CallsV Tryz.prog 64 [.agg [.dat (.i op),.dat (.i w),.dat (.i n),.dat (.str nm),.dat (.seq .terms ks)],.dat (.i m)] (.dat (.bool (decide (op = 0 /\ n = m)))) := by
  refine oV Tryz.func64 ⟨?_⟩
  repeat' (first|((with_reducible refine fun (K1 : KT) hK=>?_);refine r3 ⟨?_⟩)|((with_reducible show K1 _ _);subst hK;conv=>whnf)|refine st0 ⟨?_⟩|((with_reducible refine SplS.mk (fun h=>?_) (fun h=>?_)) <;> first|exact o4|(subst h;conv=>whnf)|(conv=>whnf)))
  all_goals repeat clear hK K1
  all_goals first|rfl|(refine db_eq ?_;rw [Bool.eq_iff_iff];simp;done)|(refine db_eq ?_;rw [Bool.eq_iff_iff];simp [*];done)|(refine db_eq ?_;exact decide_eq_false omG)|(exact db_eq (by have h1 := (by with_reducible assumption : op = 0);rw [Bool.eq_iff_iff];simp [h1]))|(exact db_eq (by rw [Bool.eq_iff_iff];simp))|(exact db_eq (by simp [*]))|skip
theorem rK (op w n : Int) (nm : ByteArray) (ks : List V.Term) (hw : inP w 1 16 = true) : CallsV Tryz.prog 232 [.agg [.dat (.i op),.dat (.i w),.dat (.i n),.dat (.str nm),.dat (.seq .terms ks)]] (.dat (.bool (decide (op = 0 /\ n = onW w)))) := by
  refine oV Tryz.func232 ⟨?_⟩
  repeat' (first|((with_reducible refine fun (K1 : KT) hK=>?_);refine r3 ⟨?_⟩)|((with_reducible show K1 _ _);subst hK;conv=>whnf)|refine st0 ⟨?_⟩|((with_reducible refine SplS.mk (fun h=>?_) (fun h=>?_)) <;> first|exact o4|(subst h;conv=>whnf)|(conv=>whnf))|refine f2 ⟨?_⟩ ⟨?_⟩|fail)
  all_goals repeat clear hK K1
  all_goals first|(refine db_eq ?_;exact decide_eq_false omG)|((with_reducible show (_ : Int) <= _);have F := wf hw;have h1 := F.lo;omega)|(have F := wf hw;have h2 := F.s2;have h3 := F.s3;refine db_eq ?_;rw [F.s,j3 (n := 2 ^ w.toNat - 1) omG omG];rw [Bool.eq_iff_iff];simp;done)|skip
def eqC (op : Int) : Prop := op = 8 \/ op = 9 \/ op = 4 \/ op = 10 \/ op = 15 \/ op = 16 \/ op = 14
instance (op : Int) : Decidable (eqC op) := by unfold eqC;infer_instance
def uB (op w : Int) (a t : V.Term) : V.Term := if op = 8 \/ op = 9 then a else if op = 4 \/ op = 10 \/ op = 15 \/ op = 16 then cT w 0 else if op = 14 then cT 1 1 else t
theorem eq_y {B : List Blk} {X : AV} {op w : Int} {a t : V.Term} (h : ∀ y,uB op w a t = y -> frzM B (i5 y) X) : frzM B (i5 (uB op w a t)) X := h _ rfl
theorem sK (op w n : Int) (nm : ByteArray) (ks : List V.Term) (hl : 0 < ks.length) : CallsV Tryz.prog 199 [.agg [.dat (.i op),.dat (.i w),.dat (.i n),.dat (.str nm),.dat (.seq .terms ks)]] (.tup [i5 (uB op w (kAt ks 0) ⟨op,w,n,nm,ks⟩),.dat (.bool (decide (eqC op)))]) := by
  refine oV Tryz.func199 ⟨?_⟩
  repeat' (first|((with_reducible refine fun (K1 : KT) hK=>?_);refine r3 ⟨?_⟩)|((with_reducible show K1 _ _);subst hK;conv=>whnf)|refine st0 ⟨?_⟩|((with_reducible refine SplS.mk (fun h=>?_) (fun h=>?_)) <;> first|exact o4|(subst h;conv=>whnf)|(conv=>whnf))|refine f2 ⟨?_⟩ ⟨?_⟩|refine vP (cG ..) ⟨?_⟩|fail)
  all_goals repeat clear hK K1
  all_goals first|exact True.intro|((with_reducible show (_ : Int) <= _);omega)|((with_reducible show (_ : Int) < _);omega)|(refine eq_y fun y hz=>?_;unfold uB at hz;(repeat (first|rw [if_pos omG] at hz|rw [if_neg omG] at hz));subst hz;first|exact fr5M (V.Term.eta _).symm|exact fr5M rfl|exact fr5Mn rfl)|exact congrArg Dat.bool (decide_eq_true (by unfold eqC;omega))|exact congrArg Dat.bool (decide_eq_false (by unfold eqC;omega))|skip
structure IHM (m : Nat) : Prop where
  call : ∀ (op w n : Int) (nm : ByteArray) (ks : List V.Term),okT ⟨op,w,n,nm,ks⟩ = true -> l5 ⟨op,w,n,nm,ks⟩ < m ->
    CallsV Tryz.prog 134 [.agg [.dat (.i op),.dat (.i w),.dat (.i n),.dat (.str nm),.dat (.seq .terms ks)]] (i5 (j4 ⟨op,w,n,nm,ks⟩))
theorem iI {m : Nat} (ih : IHM m) {op w n : Int} {nm : ByteArray} {ks : List V.Term} (hk : okT ⟨op,w,n,nm,ks⟩ = true) (hm : l5 ⟨op,w,n,nm,ks⟩ < m) :
    CallsV Tryz.prog 134 [.agg [.dat (.i op),.dat (.i w),.dat (.i n),.dat (.str nm),.dat (.seq .terms ks)]] (i5 (j4 ⟨op,w,n,nm,ks⟩)) := ih.call op w n nm ks hk hm
theorem qjh (w' : Int) (op w n : Int) (nm : ByteArray) (ks : List V.Term) (n' : Int) (m : Nat) (ih : IHM m) (hk : okT (oT 19 w' n' [⟨op,w,n,nm,ks⟩]) = true) (hm : l5 (oT 19 w' n' [⟨op,w,n,nm,ks⟩]) < m) : CallsV Tryz.prog 200 [.dat (.i w'),.agg [.dat (.i op),.dat (.i w),.dat (.i n),.dat (.str nm),.dat (.seq .terms ks)],.dat (.i n')] (i5 (j4 (oT 19 w' n' [⟨op,w,n,nm,ks⟩]))) := by
  refine oV Tryz.func200 ⟨?_⟩
  repeat' (first|((with_reducible refine fun (K1 : KT) hK=>?_);refine r3 ⟨?_⟩)|((with_reducible show K1 _ _);subst hK;conv=>whnf)|(with_reducible refine a8 ?_)|refine st0 ⟨?_⟩|((with_reducible refine y9 (g := 134) ?_);(conv=>whnf);refine ⟨_,_,iI (ih := asmR) (hk := ?_) (hm := ?_) ..,rfl,zV ?_⟩;rotate_right;conv=>whnf))
  all_goals repeat clear hK K1
  all_goals first|exact ⟨k4 (t := j4 (oT 19 w' n' [⟨op,w,n,nm,ks⟩])) (V.Term.eta _).symm⟩|exact True.intro|(with_reducible assumption)|exact hk|exact hm|exact rfl|skip
theorem iS {k : Int} {t : V.Term} (ht : okT t = true) (ho : t.op = k) (h3 : 3 <= k /\ k <= 16) (hs : ¬ (g4 t.op /\ cmpT (k0 t) (k1 t) = 1)) (h0 : (k0 t).op = 0) (c : (k = 10 /\ (k0 t).n = onW (k0 t).w /\ ¬ (k0 t).n = 0) \/ (k = 14 /\ (k0 t).w = 1 /\ (k0 t).n = 0)) :
    okT (oT 1 t.w 0 [k1 t]) = true /\ l5 (oT 1 t.w 0 [k1 t]) < l5 t := by
  subst ho
  exact qe6 ht h3 hs h0 omG omG
theorem v7 {t : V.Term} (ht : okT t = true) (h0 : t.op = 0) (hw : t.w = 1) (h1 : ¬ t.n = 1) : t.n = 0 := by
  have := u4 (const_w ht h0)
  rw [hw] at this
  have h2 := this.2.2
  have h3 := this.2.1
  have e : (2 : Int) ^ (Int.toNat 1) = 2 := rfl
  rw [e] at h2
  omega
theorem cst_is {t : V.Term} {w n : Int} (ht : okT t = true) (h0 : t.op = 0) (hw : t.w = w) (hn : t.n = n) : cT w n = ⟨t.op,t.w,t.n,t.name,t.kids⟩ := by
  have := qn0 ht h0
  rw [V.Term.eta,this,hw,hn]
structure NS (t : V.Term) : Prop where
  h : ¬ (g4 t.op /\ cmpT (k0 t) (k1 t) = 1)
theorem cM {k : Int} {t : V.Term} (ht : okT t = true) (ho : t.op = k) (h3 : 3 <= k /\ k <= 16) (hc : k5 t.kids = false) (hs : ¬ (g4 t.op /\ cmpT (k0 t) (k1 t) = 1)) (h0 : (k0 t).op = 0) (h : (r4 k t.w (k0 t) (k1 t)).isSome = true) : j4 t = (r4 k t.w (k0 t) (k1 t)).getD t := by
  have e := tJ ht ho h3 hc hs h0 h
  rw [Option.isSome_iff_exists] at h
  obtain ⟨a,ha⟩ := h
  rw [ha] at e ⊢
  exact e
section
variable {k : Int} {t : V.Term} {ks : List V.Term}
theorem okN (ht : okT t = true) (ho : t.op = k) (h3 : 3 <= k /\ k <= 16) (h : okT (oT k t.w 0 ks) = true) : okT ⟨k,t.w,t.n,t.name,ks⟩ = true := by rw [zQ ht omG omG,pN ht omG];exact h
theorem meN (ht : okT t = true) (ho : t.op = k) (h3 : 3 <= k /\ k <= 16) (h : l5 (oT k t.w 0 ks) < l5 t) : l5 ⟨k,t.w,t.n,t.name,ks⟩ < l5 t := by rw [zQ ht omG omG,pN ht omG];exact h
theorem mkN (ht : okT t = true) (ho : t.op = k) (h3 : 3 <= k /\ k <= 16) : j4 (oT k t.w 0 ks) = j4 ⟨k,t.w,t.n,t.name,ks⟩ := by rw [zQ ht omG omG,pN ht omG]
end
theorem yL {B : List Blk} {X : AV} {op w : Int} {a b t : V.Term} (h : ∀ y,r4 op w a b = y -> frzM B (i5 (y.getD t)) X) : frzM B (i5 ((r4 op w a b).getD t)) X := h _ rfl
theorem ft_3 (w : Int) (a b : V.Term) : r4 3 w a b = if a.n = 0 then some b else none := by
  unfold r4
  simp
theorem eq_3 (w : Int) (a t : V.Term) : uB 3 w a t = t := by
  unfold uB
  simp
theorem ft_4 (w : Int) (a b : V.Term) : r4 4 w a b = none := by
  unfold r4
  simp
theorem eq_4 (w : Int) (a t : V.Term) : uB 4 w a t = cT w 0 := by
  unfold uB
  simp
theorem ft_5 (w : Int) (a b : V.Term) : r4 5 w a b = if a.n = 1 then some b else if a.n = 0 then some (cT w 0) else none := by
  unfold r4
  simp
theorem ft_6 (w : Int) (a b : V.Term) : r4 6 w a b = none := by
  unfold r4
  simp
theorem ft_7 (w : Int) (a b : V.Term) : r4 7 w a b = none := by
  unfold r4
  simp
theorem ft_8 (w : Int) (a b : V.Term) : r4 8 w a b = if a.n = onW a.w then some b else if a.n = 0 then some (cT w 0) else none := by
  unfold r4
  simp
theorem eq_8 (w : Int) (a t : V.Term) : uB 8 w a t = a := by
  unfold uB
  simp
theorem ft_9 (w : Int) (a b : V.Term) : r4 9 w a b = if a.n = 0 then some b else if a.n = onW a.w then some (cT w (onW a.w)) else none := by
  unfold r4
  simp
theorem ft_10 (w : Int) (a b : V.Term) : r4 10 w a b = if a.n = 0 then some b else if a.n = onW a.w then some (j4 (oT 1 w 0 [b])) else none := by
  unfold r4
  simp
theorem ft_11 (w : Int) (a b : V.Term) : r4 11 w a b = none := by
  unfold r4
  simp
theorem eq_11 (w : Int) (a t : V.Term) : uB 11 w a t = t := by
  unfold uB
  simp
theorem ft_12 (w : Int) (a b : V.Term) : r4 12 w a b = none := by
  unfold r4
  simp
theorem ft_13 (w : Int) (a b : V.Term) : r4 13 w a b = none := by
  unfold r4
  simp
theorem ft_14 (w : Int) (a b : V.Term) : r4 14 w a b = if a.w = 1 /\ a.n = 1 then some b else if a.w = 1 /\ a.n = 0 then some (j4 (oT 1 w 0 [b])) else none := by
  unfold r4
  simp
theorem eq_14 (w : Int) (a t : V.Term) : uB 14 w a t = cT 1 1 := by
  unfold uB
  simp
theorem ft_15 (w : Int) (a b : V.Term) : r4 15 w a b = none := by
  unfold r4
  simp
theorem eq_15 (w : Int) (a t : V.Term) : uB 15 w a t = cT w 0 := by
  unfold uB
  simp
theorem ft_16 (w : Int) (a b : V.Term) : r4 16 w a b = none := by
  unfold r4
  simp
theorem ft_5z (w : Int) (a b : V.Term) : r4 5 w a b = if a.n = 0 then some (cT w 0) else if a.n = 1 then some b else none := by
  rw [ft_5]
  by_cases h : a.n = 1
  . rw [if_pos h,if_neg omG,if_pos h]
  . rw [if_neg h,if_neg h]
theorem ft_8z (w : Int) (a b : V.Term) (hw : inP a.w 1 16 = true) : r4 8 w a b = if a.n = 0 then some (cT w 0) else if a.n = onW a.w then some b else none := by
  have F := (wf hw).s3
  rw [ft_8]
  by_cases h : a.n = onW a.w
  . rw [if_pos h,if_neg (by have e : onW a.w = 2 ^ a.w.toNat - 1 := rfl;omega),if_pos h]
  . rw [if_neg h,if_neg h]
end Vg
