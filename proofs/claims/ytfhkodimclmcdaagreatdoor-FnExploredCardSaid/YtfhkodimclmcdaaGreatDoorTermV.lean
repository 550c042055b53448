/- Terms are checked: variables and all, by the reference. Condition: names are no longer than a law lets through. -/
import Derived.Test.YtfhkodimclmcdaaGreatDoorTermN
import Derived.Test.YtfhkodimclmcdaaGreatDoorRet
import Derived.Test.YtfhkodimclmcdaaGreatDoorBase
namespace Vg
open Go Go.Proofs
set_option maxRecDepth 100000
set_option maxHeartbeats 40000000
section
variable {t : V.Term} {l : List V.Val} {k : Nat}
theorem vs_hit (ho : t.op = 22) (hk : k <= l.length /\ (l.take k).all (fun v=>o6 v.name t.name) = true) (h : (k : Int) < l.length) (hl : Op.bytesLess (l.getD (k : Int).toNat K.vals.dflt).name.toList t.name.toList = false) (he : ((l.getD (k : Int).toNat K.vals.dflt).name.toList == t.name.toList) = true) :
    varL t l = (l,(l.getD (k : Int).toNat K.vals.dflt).w == t.w) := by
  rw [sT ho]
  simp only [Int.toNat_natCast] at *
  rw [qlk hk h hl (xT he)]
  congr 1
theorem vs_mid (ho : t.op = 22) (hk : k <= l.length /\ (l.take k).all (fun v=>o6 v.name t.name) = true) (h : (k : Int) < l.length) (hl : Op.bytesLess (l.getD (k : Int).toNat K.vals.dflt).name.toList t.name.toList = false) (he : ((l.getD (k : Int).toNat K.vals.dflt).name.toList == t.name.toList) = false) :
    varL t l = (((([] : List V.Val) ++ l.take k) ++ [⟨t.name,t.w,0⟩]) ++ l.drop k,true) := by
  rw [sT ho]
  simp only [Int.toNat_natCast] at *
  rw [ins_mid hk h hl (bQ he)]
  simp
theorem vs_end (ho : t.op = 22) (hk : k <= l.length /\ (l.take k).all (fun v=>o6 v.name t.name) = true) (h : ¬ (k : Int) < l.length) : varL t l = (((([] : List V.Val) ++ l.take k) ++ [⟨t.name,t.w,0⟩]) ++ l.drop k,true) := by
  rw [sT ho,ins_end hk h]
  simp
theorem vs_s (hk : k <= l.length /\ (l.take k).all (fun v=>o6 v.name t.name) = true) (h : (k : Int) < l.length) (hl : Op.bytesLess (l.getD (k : Int).toNat K.vals.dflt).name.toList t.name.toList = true) : ((l.take (k + 1)).all fun v=>o6 v.name t.name) = true := by
  simp only [Int.toNat_natCast] at *
  exact (ins_s hk h hl).2
end
theorem bnd_v {n b : Nat} (hb : b = 32) (h : n <= 1048576) : n * b <= 140737488355328 := by subst hb;omega
theorem bnd_m {n : Nat} (h : n <= 1048576) : n <= maxLen := by
  have hm : maxLen = 9223372036854775807 := rfl
  omega
structure IHVr (t : V.Term) : Prop where
  call : ∀ (op w n : Int) (nm : ByteArray) (ks : List V.Term) (l : List V.Val),sizeT ⟨op,w,n,nm,ks⟩ < sizeT t -> l.length + sizeT ⟨op,w,n,nm,ks⟩ <= 1048576 ->
    CallsV Tryz.prog 138 [.agg [.dat (.i op),.dat (.i w),.dat (.i n),.dat (.str nm),.dat (.seq .terms ks)],.dat (.seq .vals l)] (.tup [.dat (.seq .vals (varL ⟨op,w,n,nm,ks⟩ l).1),.dat (.bool (varL ⟨op,w,n,nm,ks⟩ l).2)])
theorem ih_vr {t : V.Term} (ih : IHVr t) {op w n : Int} {nm : ByteArray} {ks : List V.Term} {l : List V.Val} (hs : sizeT ⟨op,w,n,nm,ks⟩ < sizeT t) (hl : l.length + sizeT ⟨op,w,n,nm,ks⟩ <= 1048576) :
    CallsV Tryz.prog 138 [.agg [.dat (.i op),.dat (.i w),.dat (.i n),.dat (.str nm),.dat (.seq .terms ks)],.dat (.seq .vals l)] (.tup [.dat (.seq .vals (varL ⟨op,w,n,nm,ks⟩ l).1),.dat (.bool (varL ⟨op,w,n,nm,ks⟩ l).2)]) := ih.call op w n nm ks l hs hl
theorem qi8 (t : V.Term) (l : List V.Val) (ih : IHVr t) (hl : l.length + sizeT t <= 1048576) : CallsV Tryz.prog 138 [.agg [.dat (.i t.op),.dat (.i t.w),.dat (.i t.n),.dat (.str t.name),.dat (.seq .terms t.kids)],.dat (.seq .vals l)] (.tup [.dat (.seq .vals (varL t l).1),.dat (.bool (varL t l).2)]) := by
  refine oV Tryz.func138 ⟨?_⟩
  repeat' (first|((with_reducible refine fun (K1 : KT) hK=>?_);refine w5 ⟨?_⟩)|((with_reducible show K1 _ _);subst hK;conv=>whnf)|(with_reducible exact rfl)|refine st0 ⟨?_⟩|((with_reducible refine SplS.mk (fun h=>?_) (fun h=>?_)) <;> first|exact u5|(subst h;conv=>whnf)|(conv=>whnf))|refine f2 ⟨?_⟩ ⟨?_⟩|(refine y5 ({i : Nat // VarI t l i}) (fun ⟨i,hi⟩=>x5 Tryz.f138.ntmps [(1,.dat (.seq .vals (aA t.kids l i).1)),(2,.ptr 2 0),(73,.dat (.seq .terms t.kids)),(74,.dat (.i t.kids.length)),(75,.dat (.i i))] [(2,.box [.dat (.i t.op),.dat (.i t.w),.dat (.i t.n),.dat (.str t.name),.dat (.seq .terms t.kids)])]) (fun ⟨i,hi⟩=>t.kids.length - i) ⟨0, ?_⟩ (SubP.sub (σ := [(2,some 2)]) ⟨⟨rfl,rfl,rfl⟩,⟨o0 ?_,rr,o0 ?_,o0 ?_,o0 ?_,trivial⟩,⟨⟨j0 ?_,j0 ?_,j0 ?_,j0 ?_,j0 ?_,trivial⟩,trivial⟩⟩) (fun ⟨i,hi⟩=>?_);rotate_right;conv=>whnf)|(refine b6 (⟨i + 1, ?_⟩ : {i : Nat // VarI t l i}) ?_ (SubP.sub (σ := [(2,some 2)]) ⟨⟨rfl,rfl,rfl⟩,⟨o0 ?_,rr,o0 ?_,o0 ?_,o0 ?_,trivial⟩,⟨⟨j0 ?_,j0 ?_,j0 ?_,j0 ?_,j0 ?_,trivial⟩,trivial⟩⟩))|(refine y5 ({k : Nat // k <= l.length /\ (l.take k).all (fun v=>o6 v.name t.name) = true}) (fun ⟨k,hk⟩=>x5 Tryz.f138.ntmps [(1,.dat (.seq .vals l)),(2,.ptr 2 0),(6,.dat (.i k))] [(2,.box [.dat (.i t.op),.dat (.i t.w),.dat (.i t.n),.dat (.str t.name),.dat (.seq .terms t.kids)])]) (fun ⟨k,hk⟩=>l.length - k) ⟨0,⟨Nat.zero_le _,rfl⟩⟩ (SubP.sub (σ := [(2,some 2)]) ⟨⟨rfl,rfl,rfl⟩,⟨o0 ?_,rr,o0 ?_,trivial⟩,⟨⟨j0 ?_,j0 ?_,j0 ?_,j0 ?_,j0 ?_,trivial⟩,trivial⟩⟩) (fun ⟨k,hk⟩=>?_);rotate_right;conv=>whnf)|(refine b6 (⟨k + 1, ?_⟩ : {k : Nat // k <= l.length /\ (l.take k).all (fun v=>o6 v.name t.name) = true}) ?_ (SubP.sub (σ := [(2,some 2)]) ⟨⟨rfl,rfl,rfl⟩,⟨o0 ?_,rr,o0 ?_,trivial⟩,⟨⟨j0 ?_,j0 ?_,j0 ?_,j0 ?_,j0 ?_,trivial⟩,trivial⟩⟩))|refine vP (ih_vr (ih := by assumption) (hs := ?_) (hl := ?_) ..) ⟨?_⟩|(intro h;conv=>whnf))
  all_goals repeat clear hK K1
  all_goals first|exact True.intro|exact di_eq (rfl : ((0 : Nat) : Int) = 0)|exact vs_s hk asmR asmR|(have hm : maxLen = 9223372036854775807 := rfl;refine di_eq ?_;rw [j3 omG omG];omega)|(rw [V.Term.eta];exact gJ asmR)|exact varI_0 asmR|exact congrArg (Dat.seq K.vals) (by rw [vTo_0])|exact (zZ hi asmR asmR).1|exact congrArg (Dat.seq K.vals) (by rw [(zZ hi asmR asmR).2])|exact varI_l hi asmR hl|(have e := vs_hit (show t.op = 22 by with_reducible assumption) hk asmR asmR asmR;first|(show Dat.bool (varL t l).2 = Dat.bool _;rw [e])|(show Dat.seq K.vals (varL t l).1 = Dat.seq K.vals _;rw [e]))|(have e := (by first|exact vs_mid (show t.op = 22 by with_reducible assumption) hk asmR asmR asmR|exact vs_end (show t.op = 22 by with_reducible assumption) hk asmR : varL t l = (((([] : List V.Val) ++ l.take k) ++ [⟨t.name,t.w,0⟩]) ++ l.drop k,true));first|(show Dat.bool (varL t l).2 = Dat.bool _;rw [e])|(show Dat.seq K.vals (varL t l).1 = Dat.seq K.vals (((([] : List V.Val) ++ l.take k) ++ [⟨t.name,t.w,0⟩]) ++ l.drop k);rw [e]))|(have e := varI_n hi asmR asmR;first|(show Dat.bool (varL t l).2 = Dat.bool _;rw [e])|(show List.length (varL t l).1 = 0;rw [e];rfl))|(have e := varI_e hi asmR;first|(show Dat.bool (varL t l).2 = Dat.bool _;rw [e])|(show Dat.seq K.vals (varL t l).1 = Dat.seq K.vals _;rw [e]))|((first|refine bnd_v rfl ?_|refine bnd_m ?_);have hs := qH t;have e1 : ((k : Int)).toNat = k := rfl;have e2 : (l.take k).length + (l.drop k).length = l.length := (by simp;omega);first|(show ([] : List V.Val).length + (l.take k).length <= _;simp only [List.length_nil];omega)|(show (([] : List V.Val) ++ (l.take k)).length + ([⟨t.name,t.w,0⟩] : List V.Val).length <= _;simp only [List.length_append,List.length_nil,List.length_cons];omega)|(show ((([] : List V.Val) ++ (l.take k)) ++ ([⟨t.name,t.w,0⟩] : List V.Val)).length + (l.drop k).length <= _;simp only [List.length_append,List.length_nil,List.length_cons];omega))|omega|(dsimp only;omega)|skip
theorem qi9 (op w n : Int) (nm : ByteArray) (ks : List V.Term) (l : List V.Val) (hl : l.length + sizeT ⟨op,w,n,nm,ks⟩ <= 1048576) :
    CallsV Tryz.prog 138 [.agg [.dat (.i op),.dat (.i w),.dat (.i n),.dat (.str nm),.dat (.seq .terms ks)],.dat (.seq .vals l)] (.tup [.dat (.seq .vals (varL ⟨op,w,n,nm,ks⟩ l).1),.dat (.bool (varL ⟨op,w,n,nm,ks⟩ l).2)]) := by
  have key : ∀ (k : Nat) (t : V.Term) (l : List V.Val),sizeT t < k -> l.length + sizeT t <= 1048576 ->
      CallsV Tryz.prog 138 [.agg [.dat (.i t.op),.dat (.i t.w),.dat (.i t.n),.dat (.str t.name),.dat (.seq .terms t.kids)],.dat (.seq .vals l)] (.tup [.dat (.seq .vals (varL t l).1),.dat (.bool (varL t l).2)]) := by
    intro k
    induction k with
    | zero=>intro t _ h;omega
    | succ k ih =>
      intro t l h hl
      exact qi8 t l ⟨fun op w n nm ks l' hs hl'=>ih ⟨op,w,n,nm,ks⟩ l' omG hl'⟩ hl
  exact key _ ⟨op,w,n,nm,ks⟩ l (Nat.lt_succ_self _) hl
section
variable {t : V.Term}
theorem tp_few (h : decide (fewT t 240 >= 0) = false) : i7 t = false := by
  rw [oX] at h
  unfold i7
  rw [h];rfl
theorem tp_nd (h : okT t = false) : i7 t = false := by
  unfold i7
  rw [h,Bool.and_false];rfl
theorem tp_sz (h : decide (fewT t 240 >= 0) = true) : sizeT t <= 240 := by
  rw [oX] at h
  exact of_decide_eq_true h
theorem tp_y (h : decide (fewT t 240 >= 0) = true) (h2 : okT t = true) : i7 t = (varL t []).2 := by
  rw [oX] at h
  unfold i7
  rw [h,h2,qh1 h2];rfl
end
theorem qjl (op w n : Int) (nm : ByteArray) (ks : List V.Term) (hn : nmT ⟨op,w,n,nm,ks⟩ = true) : CallsV Tryz.prog 104 [.agg [.dat (.i op),.dat (.i w),.dat (.i n),.dat (.str nm),.dat (.seq .terms ks)]] (.dat (.bool (i7 ⟨op,w,n,nm,ks⟩))) := by
  refine oV Tryz.func104 ⟨?_⟩
  repeat' (first|((with_reducible refine fun (K1 : KT) hK=>?_);refine w5 ⟨?_⟩)|((with_reducible show K1 _ _);subst hK;conv=>whnf)|refine st0 ⟨?_⟩|((with_reducible refine SplS.mk (fun h=>?_) (fun h=>?_)) <;> first|exact yC|(conv=>whnf))|refine f2 ⟨?_⟩ ⟨?_⟩|refine gS (c_few (hl := ?_) ..) ⟨?_⟩|refine vP (qjd (hn := ?_) ..) ⟨?_⟩|refine vP (qi9 (hl := ?_) ..) ⟨?_⟩|fail)
  all_goals repeat clear hK K1
  all_goals first|exact db_eq (tp_few asmR)|exact db_eq (tp_nd asmR)|exact db_eq (tp_y asmR asmR)|exact hn|decide|(have e := tp_sz (show decide (fewT ⟨op,w,n,nm,ks⟩ 240 >= 0) = true by with_reducible assumption);show 0 + _ <= 1048576;omega)|skip
theorem cb_eq : ∀ (x y : List UInt8),Lib.compareBytes x y = if Op.bytesLess x y = true then -1 else if Op.bytesLess y x = true then 1 else 0
  | [],[]=>by simp [Lib.compareBytes,Op.bytesLess]
  | [],_ :: _=>by simp [Lib.compareBytes,Op.bytesLess]
  | _ :: _,[]=>by simp [Lib.compareBytes,Op.bytesLess]
  | a :: x,b :: y=>by
    rw [Lib.compareBytes,Op.bytesLess,Op.bytesLess,cb_eq x y]
    by_cases h1 : a < b
    . simp [h1]
    . by_cases h2 : b < a
      . have h3 : ¬ a = b := fun e=>by subst e;exact absurd h2 h1
        simp [h1,h2,h3]
      . have h3 : a = b := UInt8.le_antisymm (UInt8.not_lt.1 h2) (UInt8.not_lt.1 h1)
        subst h3
        simp [h1]
theorem qh5 (a b : ByteArray) : CallsV Tryz.prog 226 [.dat (.str a),.dat (.str b)] (.dat (.i (scmp a b))) := by
  have e : scmp a b = Lib.compareBytes a.data.toList b.data.toList := by
    rw [cb_eq]
    unfold scmp o6
    rw [Lib.toList_data,Lib.toList_data]
  rw [e]
  exact compV Tryz.lays106 rfl ⟨_,Tryz.func226,rfl,rfl⟩ a b
theorem v_isNaN (n : Int) : CallsV Tryz.prog 250 [.dat (.i n)] (.dat (.bool false)) := by
  refine oV Tryz.func250 ⟨?_⟩
  repeat' (first|((with_reducible refine fun (K1 : KT) hK=>?_);refine w5 ⟨?_⟩)|((with_reducible show K1 _ _);subst hK;conv=>whnf)|refine st0 ⟨?_⟩|fail)
  all_goals repeat clear hK K1
  all_goals first|rfl|(exact db_eq (by simp))|skip
theorem qh9 (a b : Int) : CallsV Tryz.prog 225 [.dat (.i a),.dat (.i b)] (.dat (.i (s4 a b))) := by
  refine oV Tryz.func225 ⟨?_⟩
  repeat' (first|((with_reducible refine fun (K1 : KT) hK=>?_);refine w5 ⟨?_⟩)|((with_reducible show K1 _ _);subst hK;conv=>whnf)|refine st0 ⟨?_⟩|((with_reducible refine SplS.mk (fun h=>?_) (fun h=>?_)) <;> first|exact o4|(subst h;conv=>whnf)|(conv=>whnf))|refine vP (v_isNaN ..) ⟨?_⟩|fail)
  all_goals repeat clear hK K1
  all_goals (refine di_eq ?_;unfold s4;(repeat' split) <;> omega)
theorem qjb (a b : Int) : CallsV Tryz.prog 135 [.dat (.i a),.dat (.i b)] (.dat (.i (s4 a b))) := by
  refine oV Tryz.func135 ⟨?_⟩
  repeat' (first|((with_reducible refine fun (K1 : KT) hK=>?_);refine w5 ⟨?_⟩)|((with_reducible show K1 _ _);subst hK;conv=>whnf)|refine st0 ⟨?_⟩|((with_reducible refine SplS.mk (fun h=>?_) (fun h=>?_)) <;> first|exact o4|(subst h;conv=>whnf)|(conv=>whnf)))
  all_goals repeat clear hK K1
  all_goals (refine di_eq ?_;unfold s4;(repeat' split) <;> omega)
section
variable {a b : V.Term} {i : Nat}
theorem cm_op (h : ¬ s4 a.op b.op = 0) : cmpT a b = s4 a.op b.op := cmp_op h
theorem cm_w (h1 : s4 a.op b.op = 0) (h : ¬ s4 a.w b.w = 0) : cmpT a b = s4 a.w b.w := cmp_w (fun k=>k h1) h
theorem cm_n (h1 : s4 a.op b.op = 0) (h2 : s4 a.w b.w = 0) (h : ¬ s4 a.n b.n = 0) : cmpT a b = s4 a.n b.n := cmp_n (fun k=>k h1) (fun k=>k h2) h
theorem cY (h1 : s4 a.op b.op = 0) (h2 : s4 a.w b.w = 0) (h3 : s4 a.n b.n = 0) (h : ¬ scmp a.name b.name = 0) : cmpT a b = scmp a.name b.name := cmp_nm (fun k=>k h1) (fun k=>k h2) (fun k=>k h3) h
theorem cmI_0 (h1 : s4 a.op b.op = 0) (h2 : s4 a.w b.w = 0) (h3 : s4 a.n b.n = 0) (h4 : scmp a.name b.name = 0) : CmpI a b 0 := cmpI_0 (fun k=>k h1) (fun k=>k h2) (fun k=>k h3) (fun k=>k h4)
theorem cmI_s (h : CmpI a b i) (h1 : (i : Int) < a.kids.length) (h2 : (i : Int) < b.kids.length) (h0 : cmpT (kE a.kids i) (kE b.kids i) = 0) : CmpI a b (i + 1) := by
  rw [nD,nD] at h0
  exact cmpI_s h h1 h2 (fun k=>k h0)
theorem cmI_f (h : CmpI a b i) (h1 : (i : Int) < a.kids.length) (h2 : (i : Int) < b.kids.length) (h0 : ¬ cmpT (kE a.kids i) (kE b.kids i) = 0) : cmpT a b = cmpT (kE a.kids i) (kE b.kids i) := by
  rw [nD,nD] at *
  exact cmpI_f h h1 h2 h0
theorem qgg (h : CmpI a b i) (h1 : ¬ (i : Int) < a.kids.length) : cmpT a b = s4 a.kids.length b.kids.length := qge h fun k=>h1 k.1
theorem qgf (h : CmpI a b i) (h1 : ¬ (i : Int) < b.kids.length) : cmpT a b = s4 a.kids.length b.kids.length := qge h fun k=>h1 k.2
theorem cmI_e3 (h : CmpI a b i) (h1 : (i : Int) < a.kids.length) (h2 : (i : Int) = b.kids.length) : cmpT a b = 1 := by
  rw [qgf h omG]
  unfold s4
  rw [if_neg omG,if_pos omG]
end
structure IHCi (a : V.Term) : Prop where
  call : ∀ (op w n : Int) (nm : ByteArray) (ks : List V.Term) (op' w' n' : Int) (nm' : ByteArray) (ks' : List V.Term),sizeT ⟨op,w,n,nm,ks⟩ < sizeT a ->
    CallsV Tryz.prog 183 [.agg [.dat (.i op),.dat (.i w),.dat (.i n),.dat (.str nm),.dat (.seq .terms ks)],.agg [.dat (.i op'),.dat (.i w'),.dat (.i n'),.dat (.str nm'),.dat (.seq .terms ks')]] (.dat (.i (cmpT ⟨op,w,n,nm,ks⟩ ⟨op',w',n',nm',ks'⟩)))
theorem ih_ci {a : V.Term} (ih : IHCi a) {op w n : Int} {nm : ByteArray} {ks : List V.Term} {op' w' n' : Int} {nm' : ByteArray} {ks' : List V.Term} (hs : sizeT ⟨op,w,n,nm,ks⟩ < sizeT a) :
    CallsV Tryz.prog 183 [.agg [.dat (.i op),.dat (.i w),.dat (.i n),.dat (.str nm),.dat (.seq .terms ks)],.agg [.dat (.i op'),.dat (.i w'),.dat (.i n'),.dat (.str nm'),.dat (.seq .terms ks')]] (.dat (.i (cmpT ⟨op,w,n,nm,ks⟩ ⟨op',w',n',nm',ks'⟩))) := ih.call op w n nm ks op' w' n' nm' ks' hs
theorem qmy (a b : V.Term) (ih : IHCi a) : CallsV Tryz.prog 183 [.agg [.dat (.i a.op),.dat (.i a.w),.dat (.i a.n),.dat (.str a.name),.dat (.seq .terms a.kids)],.agg [.dat (.i b.op),.dat (.i b.w),.dat (.i b.n),.dat (.str b.name),.dat (.seq .terms b.kids)]] (.dat (.i (cmpT a b))) := by
  refine oV Tryz.func183 ⟨?_⟩
  repeat' (first|((with_reducible refine fun (K1 : KT) hK=>?_);refine w5 ⟨?_⟩)|((with_reducible show K1 _ _);subst hK;conv=>whnf)|(with_reducible exact rfl)|refine st0 ⟨?_⟩|((with_reducible refine SplS.mk (fun h=>?_) (fun h=>?_)) <;> first|exact o4|(subst h;conv=>whnf)|(conv=>whnf))|refine f2 ⟨?_⟩ ⟨?_⟩|(refine y5 ({i : Nat // CmpI a b i}) (fun ⟨i,hi⟩=>x5 Tryz.f183.ntmps [(2,.ptr 2 0),(3,.ptr 3 0),(9,.dat (.i i))] [(2,.box [.dat (.i a.op),.dat (.i a.w),.dat (.i a.n),.dat (.str a.name),.dat (.seq .terms a.kids)]),(3,.box [.dat (.i b.op),.dat (.i b.w),.dat (.i b.n),.dat (.str b.name),.dat (.seq .terms b.kids)])]) (fun ⟨i,hi⟩=>a.kids.length - i) ⟨0, ?_⟩ (SubP.sub (σ := [(2,some 2),(3,some 3)]) ⟨⟨rfl,rfl,rfl⟩,⟨rr,rr,o0 ?_,trivial⟩,⟨⟨j0 ?_,j0 ?_,j0 ?_,j0 ?_,j0 ?_,trivial⟩,⟨j0 ?_,j0 ?_,j0 ?_,j0 ?_,j0 ?_,trivial⟩,trivial⟩⟩) (fun ⟨i,hi⟩=>?_);rotate_right;conv=>whnf)|(refine b6 (⟨i + 1, ?_⟩ : {i : Nat // CmpI a b i}) ?_ (SubP.sub (σ := [(2,some 2),(3,some 3)]) ⟨⟨rfl,rfl,rfl⟩,⟨rr,rr,o0 ?_,trivial⟩,⟨⟨j0 ?_,j0 ?_,j0 ?_,j0 ?_,j0 ?_,trivial⟩,⟨j0 ?_,j0 ?_,j0 ?_,j0 ?_,j0 ?_,trivial⟩,trivial⟩⟩))|refine vP (qh9 ..) ⟨?_⟩|refine vP (qh5 ..) ⟨?_⟩|refine vE (ih_ci (ih := by assumption) (hs := ?_) ..) ⟨?_⟩|(intro h;conv=>whnf))
  all_goals repeat clear hK K1
  all_goals first|exact di_eq (rfl : ((0 : Nat) : Int) = 0)|(have hm : maxLen = 9223372036854775807 := rfl;refine di_eq ?_;rw [j3 omG omG];omega)|(rw [V.Term.eta];exact gJ asmR)|exact cmI_0 asmR asmR asmR asmR|exact cmI_s hi asmR asmR asmR|(refine di_eq ?_;first|exact cmI_f hi asmR asmR asmR|exact qgg hi asmR|exact qgf hi asmR|exact cm_op asmR|exact cm_w asmR asmR|exact cm_n asmR asmR asmR|exact cY asmR asmR asmR asmR)|omega|(dsimp only;omega)|skip
theorem kO (op w n : Int) (nm : ByteArray) (ks : List V.Term) (op' w' n' : Int) (nm' : ByteArray) (ks' : List V.Term) :
    CallsV Tryz.prog 183 [.agg [.dat (.i op),.dat (.i w),.dat (.i n),.dat (.str nm),.dat (.seq .terms ks)],.agg [.dat (.i op'),.dat (.i w'),.dat (.i n'),.dat (.str nm'),.dat (.seq .terms ks')]] (.dat (.i (cmpT ⟨op,w,n,nm,ks⟩ ⟨op',w',n',nm',ks'⟩))) := by
  have key : ∀ (k : Nat) (a b : V.Term),sizeT a < k ->
      CallsV Tryz.prog 183 [.agg [.dat (.i a.op),.dat (.i a.w),.dat (.i a.n),.dat (.str a.name),.dat (.seq .terms a.kids)],.agg [.dat (.i b.op),.dat (.i b.w),.dat (.i b.n),.dat (.str b.name),.dat (.seq .terms b.kids)]] (.dat (.i (cmpT a b))) := by
    intro k
    induction k with
    | zero=>intro t _ h;omega
    | succ k ih =>
      intro a b h
      exact qmy a b ⟨fun op w n nm ks op' w' n' nm' ks' hs=>ih ⟨op,w,n,nm,ks⟩ ⟨op',w',n',nm',ks'⟩ omG⟩
  exact key _ ⟨op,w,n,nm,ks⟩ ⟨op',w',n',nm',ks'⟩ (Nat.lt_succ_self _)
structure IHCs (a : V.Term) : Prop where
  call : ∀ (op w n : Int) (nm : ByteArray) (ks : List V.Term) (op' w' n' : Int) (nm' : ByteArray) (ks' : List V.Term),sizeT ⟨op,w,n,nm,ks⟩ < sizeT a ->
    CallsV Tryz.prog 103 [.agg [.dat (.i op),.dat (.i w),.dat (.i n),.dat (.str nm),.dat (.seq .terms ks)],.agg [.dat (.i op'),.dat (.i w'),.dat (.i n'),.dat (.str nm'),.dat (.seq .terms ks')]] (.dat (.i (cmpT ⟨op,w,n,nm,ks⟩ ⟨op',w',n',nm',ks'⟩)))
theorem ih_cs {a : V.Term} (ih : IHCs a) {op w n : Int} {nm : ByteArray} {ks : List V.Term} {op' w' n' : Int} {nm' : ByteArray} {ks' : List V.Term} (hs : sizeT ⟨op,w,n,nm,ks⟩ < sizeT a) :
    CallsV Tryz.prog 103 [.agg [.dat (.i op),.dat (.i w),.dat (.i n),.dat (.str nm),.dat (.seq .terms ks)],.agg [.dat (.i op'),.dat (.i w'),.dat (.i n'),.dat (.str nm'),.dat (.seq .terms ks')]] (.dat (.i (cmpT ⟨op,w,n,nm,ks⟩ ⟨op',w',n',nm',ks'⟩))) := ih.call op w n nm ks op' w' n' nm' ks' hs
structure Ord3 (a b : V.Term) (j : Nat) : Prop where
  le : j <= 3
  o : 0 < j -> s4 a.op b.op = 0
  w : 1 < j -> s4 a.w b.w = 0
  n : 2 < j -> s4 a.n b.n = 0
theorem ord3_0 (a b : V.Term) : Ord3 a b 0 := ⟨by omega,by omega,by omega,by omega⟩
section
variable {a b : V.Term} {i j : Nat}
abbrev s3 (a b : V.Term) : List Int := [s4 a.op b.op,s4 a.w b.w,s4 a.n b.n]
theorem ord3_s (h : Ord3 a b j) (hj : (j : Int) < 3) (h0 : (s3 a b).getD (j : Int).toNat K.ints.dflt = 0) : Ord3 a b (j + 1) := by
  have : j = 0 \/ j = 1 \/ j = 2 := by omega
  rcases this with rfl|rfl|rfl
  . exact ⟨by omega,fun _=>h0,by omega,by omega⟩
  . exact ⟨by omega,fun _=>h.o omG,fun _=>h0,by omega⟩
  . exact ⟨by omega,fun _=>h.o omG,fun _=>h.w omG,fun _=>h0⟩
theorem ord3_f (h : Ord3 a b j) (hj : (j : Int) < 3) (h0 : ¬ (s3 a b).getD (j : Int).toNat K.ints.dflt = 0) : cmpT a b = (s3 a b).getD (j : Int).toNat K.ints.dflt := by
  have : j = 0 \/ j = 1 \/ j = 2 := by omega
  rcases this with rfl|rfl|rfl
  . exact cm_op h0
  . exact cm_w (h.o omG) h0
  . exact cm_n (h.o omG) (h.w omG) h0
theorem sc_same (h : (a.name.toList == b.name.toList) = true) : scmp a.name b.name = 0 := by rw [xT h,kU]
theorem cm_lt (h : Ord3 a b j) (hj : ¬ (j : Int) < 3) (h1 : Op.bytesLess a.name.toList b.name.toList = true) : cmpT a b = -1 := by
  have e := qa8 h1
  rw [cY (h.o omG) (h.w omG) (h.n omG) (by rw [e];decide),e]
theorem cm_gt (h : Ord3 a b j) (hj : ¬ (j : Int) < 3) (hn : (a.name.toList == b.name.toList) = false) (h1 : Op.bytesLess a.name.toList b.name.toList = false) : cmpT a b = 1 := by
  have e := lU (bQ hn) h1
  rw [cY (h.o omG) (h.w omG) (h.n omG) (by rw [e];decide),e]
theorem cmI_00 (h : Ord3 a b j) (hj : ¬ (j : Int) < 3) (hn : (a.name.toList == b.name.toList) = true) : CmpI a b 0 := cmI_0 (h.o omG) (h.w omG) (h.n omG) (sc_same hn)
theorem dY (h : CmpI a b i) (h2 : ¬ (i : Int) = b.kids.length) : (i : Int) < b.kids.length := by
  have := h.lb
  omega
end
theorem qjy (a b : V.Term) (ih : IHCs a) : CallsV Tryz.prog 103 [.agg [.dat (.i a.op),.dat (.i a.w),.dat (.i a.n),.dat (.str a.name),.dat (.seq .terms a.kids)],.agg [.dat (.i b.op),.dat (.i b.w),.dat (.i b.n),.dat (.str b.name),.dat (.seq .terms b.kids)]] (.dat (.i (cmpT a b))) := by
  refine oV Tryz.func103 ⟨?_⟩
  repeat' (first|((with_reducible refine fun (K1 : KT) hK=>?_);refine w5 ⟨?_⟩)|((with_reducible show K1 _ _);subst hK;conv=>whnf)|(with_reducible exact rfl)|refine st0 ⟨?_⟩|((with_reducible refine SplS.mk (fun h=>?_) (fun h=>?_)) <;> first|exact u5|(subst h;conv=>whnf)|(conv=>whnf))|refine f2 ⟨?_⟩ ⟨?_⟩|(refine y5 ({i : Nat // CmpI a b i}) (fun ⟨i,hi⟩=>x5 Tryz.f103.ntmps [(3,.ptr 3 0),(46,.dat (.seq .terms a.kids)),(47,.dat (.i a.kids.length)),(48,.dat (.i i)),(2,.ptr 2 0)] [(2,.box [.dat (.i a.op),.dat (.i a.w),.dat (.i a.n),.dat (.str a.name),.dat (.seq .terms a.kids)]),(3,.box [.dat (.i b.op),.dat (.i b.w),.dat (.i b.n),.dat (.str b.name),.dat (.seq .terms b.kids)])]) (fun ⟨i,hi⟩=>a.kids.length - i) ⟨0, ?_⟩ (SubP.sub (σ := [(2,some 2),(3,some 3)]) ⟨⟨rfl,rfl,rfl⟩,⟨rr,o0 ?_,o0 ?_,o0 ?_,rr,trivial⟩,⟨⟨j0 ?_,j0 ?_,j0 ?_,j0 ?_,j0 ?_,trivial⟩,⟨j0 ?_,j0 ?_,j0 ?_,j0 ?_,j0 ?_,trivial⟩,trivial⟩⟩) (fun ⟨i,hi⟩=>?_);rotate_right;conv=>whnf)|(refine b6 (⟨i + 1, ?_⟩ : {i : Nat // CmpI a b i}) ?_ (SubP.sub (σ := [(2,some 2),(3,some 3)]) ⟨⟨rfl,rfl,rfl⟩,⟨rr,o0 ?_,o0 ?_,o0 ?_,rr,trivial⟩,⟨⟨j0 ?_,j0 ?_,j0 ?_,j0 ?_,j0 ?_,trivial⟩,⟨j0 ?_,j0 ?_,j0 ?_,j0 ?_,j0 ?_,trivial⟩,trivial⟩⟩))|(refine y5 ({j : Nat // Ord3 a b j}) (fun ⟨j,hj⟩=>x5 Tryz.f103.ntmps [(2,.ptr 2 0),(3,.ptr 3 0),(25,.row 25),(26,.dat (.i 3)),(27,.dat (.i j))] [(2,.box [.dat (.i a.op),.dat (.i a.w),.dat (.i a.n),.dat (.str a.name),.dat (.seq .terms a.kids)]),(3,.box [.dat (.i b.op),.dat (.i b.w),.dat (.i b.n),.dat (.str b.name),.dat (.seq .terms b.kids)]),(25,.row 3 .ints (s3 a b) false)]) (fun ⟨j,hj⟩=>3 - j) ⟨0,ord3_0 a b⟩ (SubP.sub (σ := [(2,some 2),(3,some 3),(25,some 25)]) ⟨⟨rfl,rfl,rfl⟩,⟨rr,rr,rfl,o0 ?_,o0 ?_,trivial⟩,⟨⟨j0 ?_,j0 ?_,j0 ?_,j0 ?_,j0 ?_,trivial⟩,⟨j0 ?_,j0 ?_,j0 ?_,j0 ?_,j0 ?_,trivial⟩,⟨rr, ?_⟩,trivial⟩⟩) (fun ⟨j,hj⟩=>?_);rotate_right;conv=>whnf)|(refine b6 (⟨j + 1, ?_⟩ : {j : Nat // Ord3 a b j}) ?_ (SubP.sub (σ := [(2,some 2),(3,some 3),(25,some 25)]) ⟨⟨rfl,rfl,rfl⟩,⟨rr,rr,rfl,o0 ?_,o0 ?_,trivial⟩,⟨⟨j0 ?_,j0 ?_,j0 ?_,j0 ?_,j0 ?_,trivial⟩,⟨j0 ?_,j0 ?_,j0 ?_,j0 ?_,j0 ?_,trivial⟩,⟨rr, ?_⟩,trivial⟩⟩))|refine vP (qjb ..) ⟨?_⟩|refine vE (ih_cs (ih := by assumption) (hs := ?_) ..) ⟨?_⟩|(intro h;conv=>whnf))
  all_goals repeat clear hK K1
  all_goals first|exact di_eq (rfl : ((0 : Nat) : Int) = 0)|(have hm : maxLen = 9223372036854775807 := rfl;refine di_eq ?_;rw [j3 omG omG];omega)|(rw [V.Term.eta];exact gJ asmR)|exact cmI_00 hj asmR asmR|exact ord3_s hj asmR asmR|exact cmI_s hi asmR (dY hi asmR) asmR|exact dY hi asmR|exact di_eq (rfl : (3 : Int) = ((3 : Nat) : Int))|(show (j : Int).toNat < 3;omega)|(refine di_eq ?_;first|exact ord3_f hj asmR asmR|exact cmI_f hi asmR (dY hi asmR) asmR|exact qgg hi asmR|exact cmI_e3 hi asmR asmR|exact cm_lt hj asmR asmR|exact cm_gt hj asmR asmR asmR)|omega|(dsimp only;omega)|skip
theorem nQ (op w n : Int) (nm : ByteArray) (ks : List V.Term) (op' w' n' : Int) (nm' : ByteArray) (ks' : List V.Term) :
    CallsV Tryz.prog 103 [.agg [.dat (.i op),.dat (.i w),.dat (.i n),.dat (.str nm),.dat (.seq .terms ks)],.agg [.dat (.i op'),.dat (.i w'),.dat (.i n'),.dat (.str nm'),.dat (.seq .terms ks')]] (.dat (.i (cmpT ⟨op,w,n,nm,ks⟩ ⟨op',w',n',nm',ks'⟩))) := by
  have key : ∀ (k : Nat) (a b : V.Term),sizeT a < k ->
      CallsV Tryz.prog 103 [.agg [.dat (.i a.op),.dat (.i a.w),.dat (.i a.n),.dat (.str a.name),.dat (.seq .terms a.kids)],.agg [.dat (.i b.op),.dat (.i b.w),.dat (.i b.n),.dat (.str b.name),.dat (.seq .terms b.kids)]] (.dat (.i (cmpT a b))) := by
    intro k
    induction k with
    | zero=>intro t _ h;omega
    | succ k ih =>
      intro a b h
      exact qjy a b ⟨fun op w n nm ks op' w' n' nm' ks' hs=>ih ⟨op,w,n,nm,ks⟩ ⟨op',w',n',nm',ks'⟩ omG⟩
  exact key _ ⟨op,w,n,nm,ks⟩ ⟨op',w',n',nm',ks'⟩ (Nat.lt_succ_self _)
theorem jI (op w n : Int) (nm : ByteArray) (ks : List V.Term) (op' w' n' : Int) (nm' : ByteArray) (ks' : List V.Term) : CallsV Tryz.prog 154 [.agg [.dat (.i op),.dat (.i w),.dat (.i n),.dat (.str nm),.dat (.seq .terms ks)],.agg [.dat (.i op'),.dat (.i w'),.dat (.i n'),.dat (.str nm'),.dat (.seq .terms ks')]] (.dat (.bool (cmpT ⟨op,w,n,nm,ks⟩ ⟨op',w',n',nm',ks'⟩ == 0))) := by
  refine oV Tryz.func154 ⟨?_⟩
  repeat' (first|((with_reducible refine fun (K1 : KT) hK=>?_);refine w5 ⟨?_⟩)|((with_reducible show K1 _ _);subst hK;conv=>whnf)|refine st0 ⟨?_⟩|refine vP (kO ..) ⟨?_⟩|fail)
  all_goals repeat clear hK K1
  all_goals first|rfl|skip
theorem rH (op w n : Int) (nm : ByteArray) (ks : List V.Term) (op' w' n' : Int) (nm' : ByteArray) (ks' : List V.Term) : CallsV Tryz.prog 70 [.agg [.dat (.i op),.dat (.i w),.dat (.i n),.dat (.str nm),.dat (.seq .terms ks)],.agg [.dat (.i op'),.dat (.i w'),.dat (.i n'),.dat (.str nm'),.dat (.seq .terms ks')]] (.dat (.bool (cmpT ⟨op,w,n,nm,ks⟩ ⟨op',w',n',nm',ks'⟩ == 0))) := by
  refine oV Tryz.func70 ⟨?_⟩
  repeat' (first|((with_reducible refine fun (K1 : KT) hK=>?_);refine w5 ⟨?_⟩)|((with_reducible show K1 _ _);subst hK;conv=>whnf)|refine st0 ⟨?_⟩|refine vP (nQ ..) ⟨?_⟩|fail)
  all_goals repeat clear hK K1
  all_goals first|rfl|skip
end Vg
