/- Paths: contracts of the functions that paths lean on: numerals of inputs, lists that are copied, put, longer. Condition: lists are no longer than the laws let through. -/
import Derived.Test.YtfhkodimclmcdaaGreatDoorTermI
import Derived.Test.YtfhkodimclmcdaaGreatDoorRg
namespace Vg
open Go Go.Proofs
set_option maxRecDepth 100000
set_option maxHeartbeats 40000000
theorem qch {P : Program} {f : FuncId} {args : List AV} {T : Nat} {κ : K} {l : List κ.T} {fr : Bool} (h : CallsF P f args fr fun res B=>(res = .nils /\ B = [] /\ l.length = 0) \/ (res = .row 0 /\ B = [.row T κ l false])) :
    CallsF P f args fr fun res B=>res = .row 0 /\ B = [.row T κ l false] := by
  refine ⟨h.1,fun w Im vs h1 h2 h3=>?_⟩
  refine (h.2 w Im vs h1 h2 h3).mono fun e w' he=>?_
  obtain ⟨v,res,B',ρ',Im',rfl,hR,hv,hE,hX⟩ := he
  rcases hR with ⟨rfl,rfl,hl⟩|⟨rfl,rfl⟩
  . obtain rfl := cH hv
    refine ⟨_,.row 0,[.row T κ l false],fun _=>none,Im',rfl,rr,.rowN 0 rfl,⟨fun i b hi=>?_,fun i j r s x _ _ hr=>(by cases hr),fun i r _ hr=>(by cases hr),fun i r x _ hr=>(by cases hr),fun i r x o _ hr=>(by cases hr),hE.imlt,fun i b r o _ hr=>(by cases hr)⟩,
      ⟨fun i r x _ hr=>(by cases hr),hX.im0,hX.imNew,hX.keep,hX.frame,hX.grow,hX.os,hX.tape,hX.output,fun i p hp=>(by cases hp)⟩⟩
    cases i with
    | zero=>cases hi;exact hl
    | succ i=>cases hi
  . exact ⟨_,_,_,ρ',Im',rfl,rr,hv,hE,hX⟩
def lA (k : Int) : ByteArray := ⟨#[(48 + k.toNat).toUInt8]⟩
def l6 (k : Int) : ByteArray := ⟨#[105]⟩ ++ lA k
theorem qh8  : CallsV Tryz.prog 211 [.dat (.i 0)] (.dat (.str (lA 0))) := by
  refine oV Tryz.func211 ⟨?_⟩
  repeat' (first|((with_reducible refine fun (K1 : KT) hK=>?_);refine k7 ⟨?_⟩)|((with_reducible show K1 _ _);subst hK;conv=>whnf)|refine st0 ⟨?_⟩|refine f2 ⟨?_⟩ ⟨?_⟩|fail)
  all_goals repeat clear hK K1
  all_goals first|rfl|decide|skip
theorem v_fmt0  : CallsV Tryz.prog 177 [.dat (.int .i64 0),.dat (.i 10)] (.dat (.str (lA 0))) := by
  refine oV Tryz.func177 ⟨?_⟩
  repeat' (first|((with_reducible refine fun (K1 : KT) hK=>?_);refine k7 ⟨?_⟩)|((with_reducible show K1 _ _);subst hK;conv=>whnf)|refine st0 ⟨?_⟩|refine vP (qh8 ..) ⟨?_⟩|fail)
  all_goals repeat clear hK K1
  all_goals first|rfl|decide|skip
theorem v_ito0  : CallsV Tryz.prog 150 [.dat (.i 0)] (.dat (.str (lA 0))) := by
  refine oV Tryz.func150 ⟨?_⟩
  repeat' (first|((with_reducible refine fun (K1 : KT) hK=>?_);refine k7 ⟨?_⟩)|((with_reducible show K1 _ _);subst hK;conv=>whnf)|refine st0 ⟨?_⟩|refine vP (v_fmt0 ..) ⟨?_⟩|fail)
  all_goals repeat clear hK K1
  all_goals first|rfl|decide|skip
theorem v_Ito0  : CallsV Tryz.prog 113 [.dat (.i 0)] (.dat (.str (lA 0))) := by
  refine oV Tryz.func113 ⟨?_⟩
  repeat' (first|((with_reducible refine fun (K1 : KT) hK=>?_);refine k7 ⟨?_⟩)|((with_reducible show K1 _ _);subst hK;conv=>whnf)|refine st0 ⟨?_⟩|refine vP (v_ito0 ..) ⟨?_⟩|fail)
  all_goals repeat clear hK K1
  all_goals first|rfl|decide|skip
theorem v_Fmt0  : CallsV Tryz.prog 76 [.dat (.i 0)] (.dat (.str (lA 0))) := by
  refine oV Tryz.func76 ⟨?_⟩
  repeat' (first|((with_reducible refine fun (K1 : KT) hK=>?_);refine k7 ⟨?_⟩)|((with_reducible show K1 _ _);subst hK;conv=>whnf)|refine st0 ⟨?_⟩|refine vP (v_Ito0 ..) ⟨?_⟩|fail)
  all_goals repeat clear hK K1
  all_goals first|rfl|decide|skip
theorem s_fmt0  : CallsV Tryz.prog 133 [.dat (.i 0)] (.dat (.str (lA 0))) := by
  refine oV Tryz.func133 ⟨?_⟩
  repeat' (first|((with_reducible refine fun (K1 : KT) hK=>?_);refine k7 ⟨?_⟩)|((with_reducible show K1 _ _);subst hK;conv=>whnf)|(with_reducible exact rfl)|refine st0 ⟨?_⟩|refine f2 ⟨?_⟩ ⟨?_⟩|(refine y5 (Unit) (fun _=>x5 Tryz.f133.ntmps [(0,.dat (.i 0)),(3,.dat (.str ByteArray.empty))] []) (fun _=>0) () (SubP.sub (σ := []) ⟨⟨rfl,rfl,rfl⟩,⟨o0 ?_,o0 ?_,trivial⟩,trivial⟩) (fun _=>?_);rotate_right;conv=>whnf))
  all_goals repeat clear hK K1
  all_goals first|rfl|all_goals first|rfl|decide|skip
theorem qh7  : CallsV Tryz.prog 211 [.dat (.i 1)] (.dat (.str (lA 1))) := by
  refine oV Tryz.func211 ⟨?_⟩
  repeat' (first|((with_reducible refine fun (K1 : KT) hK=>?_);refine k7 ⟨?_⟩)|((with_reducible show K1 _ _);subst hK;conv=>whnf)|refine st0 ⟨?_⟩|refine f2 ⟨?_⟩ ⟨?_⟩|fail)
  all_goals repeat clear hK K1
  all_goals first|rfl|decide|skip
theorem v_fmt1  : CallsV Tryz.prog 177 [.dat (.int .i64 1),.dat (.i 10)] (.dat (.str (lA 1))) := by
  refine oV Tryz.func177 ⟨?_⟩
  repeat' (first|((with_reducible refine fun (K1 : KT) hK=>?_);refine k7 ⟨?_⟩)|((with_reducible show K1 _ _);subst hK;conv=>whnf)|refine st0 ⟨?_⟩|refine vP (qh7 ..) ⟨?_⟩|fail)
  all_goals repeat clear hK K1
  all_goals first|rfl|decide|skip
theorem v_ito1  : CallsV Tryz.prog 150 [.dat (.i 1)] (.dat (.str (lA 1))) := by
  refine oV Tryz.func150 ⟨?_⟩
  repeat' (first|((with_reducible refine fun (K1 : KT) hK=>?_);refine k7 ⟨?_⟩)|((with_reducible show K1 _ _);subst hK;conv=>whnf)|refine st0 ⟨?_⟩|refine vP (v_fmt1 ..) ⟨?_⟩|fail)
  all_goals repeat clear hK K1
  all_goals first|rfl|decide|skip
theorem v_Ito1  : CallsV Tryz.prog 113 [.dat (.i 1)] (.dat (.str (lA 1))) := by
  refine oV Tryz.func113 ⟨?_⟩
  repeat' (first|((with_reducible refine fun (K1 : KT) hK=>?_);refine k7 ⟨?_⟩)|((with_reducible show K1 _ _);subst hK;conv=>whnf)|refine st0 ⟨?_⟩|refine vP (v_ito1 ..) ⟨?_⟩|fail)
  all_goals repeat clear hK K1
  all_goals first|rfl|decide|skip
theorem v_Fmt1  : CallsV Tryz.prog 76 [.dat (.i 1)] (.dat (.str (lA 1))) := by
  refine oV Tryz.func76 ⟨?_⟩
  repeat' (first|((with_reducible refine fun (K1 : KT) hK=>?_);refine k7 ⟨?_⟩)|((with_reducible show K1 _ _);subst hK;conv=>whnf)|refine st0 ⟨?_⟩|refine vP (v_Ito1 ..) ⟨?_⟩|fail)
  all_goals repeat clear hK K1
  all_goals first|rfl|decide|skip
theorem s_fmt1  : CallsV Tryz.prog 133 [.dat (.i 1)] (.dat (.str (lA 1))) := by
  refine oV Tryz.func133 ⟨?_⟩
  repeat' (first|((with_reducible refine fun (K1 : KT) hK=>?_);refine k7 ⟨?_⟩)|((with_reducible show K1 _ _);subst hK;conv=>whnf)|(with_reducible exact rfl)|refine st0 ⟨?_⟩|refine f2 ⟨?_⟩ ⟨?_⟩|(refine y5 (Unit) (fun _=>x5 Tryz.f133.ntmps [(0,.dat (.i 1)),(3,.dat (.str ByteArray.empty))] []) (fun _=>0) () (SubP.sub (σ := []) ⟨⟨rfl,rfl,rfl⟩,⟨o0 ?_,o0 ?_,trivial⟩,trivial⟩) (fun _=>?_);rotate_right;conv=>whnf))
  all_goals repeat clear hK K1
  all_goals first|rfl|all_goals first|rfl|decide|skip
theorem qh6  : CallsV Tryz.prog 211 [.dat (.i 2)] (.dat (.str (lA 2))) := by
  refine oV Tryz.func211 ⟨?_⟩
  repeat' (first|((with_reducible refine fun (K1 : KT) hK=>?_);refine k7 ⟨?_⟩)|((with_reducible show K1 _ _);subst hK;conv=>whnf)|refine st0 ⟨?_⟩|refine f2 ⟨?_⟩ ⟨?_⟩|fail)
  all_goals repeat clear hK K1
  all_goals first|rfl|decide|skip
theorem v_fmt2  : CallsV Tryz.prog 177 [.dat (.int .i64 2),.dat (.i 10)] (.dat (.str (lA 2))) := by
  refine oV Tryz.func177 ⟨?_⟩
  repeat' (first|((with_reducible refine fun (K1 : KT) hK=>?_);refine k7 ⟨?_⟩)|((with_reducible show K1 _ _);subst hK;conv=>whnf)|refine st0 ⟨?_⟩|refine vP (qh6 ..) ⟨?_⟩|fail)
  all_goals repeat clear hK K1
  all_goals first|rfl|decide|skip
theorem v_ito2  : CallsV Tryz.prog 150 [.dat (.i 2)] (.dat (.str (lA 2))) := by
  refine oV Tryz.func150 ⟨?_⟩
  repeat' (first|((with_reducible refine fun (K1 : KT) hK=>?_);refine k7 ⟨?_⟩)|((with_reducible show K1 _ _);subst hK;conv=>whnf)|refine st0 ⟨?_⟩|refine vP (v_fmt2 ..) ⟨?_⟩|fail)
  all_goals repeat clear hK K1
  all_goals first|rfl|decide|skip
theorem v_Ito2  : CallsV Tryz.prog 113 [.dat (.i 2)] (.dat (.str (lA 2))) := by
  refine oV Tryz.func113 ⟨?_⟩
  repeat' (first|((with_reducible refine fun (K1 : KT) hK=>?_);refine k7 ⟨?_⟩)|((with_reducible show K1 _ _);subst hK;conv=>whnf)|refine st0 ⟨?_⟩|refine vP (v_ito2 ..) ⟨?_⟩|fail)
  all_goals repeat clear hK K1
  all_goals first|rfl|decide|skip
theorem v_Fmt2  : CallsV Tryz.prog 76 [.dat (.i 2)] (.dat (.str (lA 2))) := by
  refine oV Tryz.func76 ⟨?_⟩
  repeat' (first|((with_reducible refine fun (K1 : KT) hK=>?_);refine k7 ⟨?_⟩)|((with_reducible show K1 _ _);subst hK;conv=>whnf)|refine st0 ⟨?_⟩|refine vP (v_Ito2 ..) ⟨?_⟩|fail)
  all_goals repeat clear hK K1
  all_goals first|rfl|decide|skip
theorem s_fmt2  : CallsV Tryz.prog 133 [.dat (.i 2)] (.dat (.str (lA 2))) := by
  refine oV Tryz.func133 ⟨?_⟩
  repeat' (first|((with_reducible refine fun (K1 : KT) hK=>?_);refine k7 ⟨?_⟩)|((with_reducible show K1 _ _);subst hK;conv=>whnf)|(with_reducible exact rfl)|refine st0 ⟨?_⟩|refine f2 ⟨?_⟩ ⟨?_⟩|(refine y5 (Unit) (fun _=>x5 Tryz.f133.ntmps [(0,.dat (.i 2)),(3,.dat (.str ByteArray.empty))] []) (fun _=>0) () (SubP.sub (σ := []) ⟨⟨rfl,rfl,rfl⟩,⟨o0 ?_,o0 ?_,trivial⟩,trivial⟩) (fun _=>?_);rotate_right;conv=>whnf))
  all_goals repeat clear hK K1
  all_goals first|rfl|all_goals first|rfl|decide|skip
theorem qek (n : Int) (h0 : 0 <= n) (h1 : n <= 2) : CallsV Tryz.prog 76 [.dat (.i n)] (.dat (.str (lA n))) := by
  have : n = 0 \/ n = 1 \/ n = 2 := by omega
  rcases this with rfl|rfl|rfl
  . exact v_Fmt0
  . exact v_Fmt1
  . exact v_Fmt2
theorem qjv (n : Int) (h0 : 0 <= n) (h1 : n <= 2) : CallsV Tryz.prog 133 [.dat (.i n)] (.dat (.str (lA n))) := by
  have : n = 0 \/ n = 1 \/ n = 2 := by omega
  rcases this with rfl|rfl|rfl
  . exact s_fmt0
  . exact s_fmt1
  . exact s_fmt2
theorem qmo (w : Int) (s : ByteArray) (hw : inP w 1 16 = true) (hs : isNameP s = true) : CallsV Tryz.prog 192 [.dat (.i w),.dat (.str s)] (.agg [.dat (.i 22),.dat (.i w),.dat (.i 0),.dat (.str s),.dat (.seq .terms [])]) := by
  refine oV Tryz.func192 ⟨?_⟩
  repeat' (first|((with_reducible refine fun (K1 : KT) hK=>?_);refine k7 ⟨?_⟩)|((with_reducible show K1 _ _);subst hK;conv=>whnf)|refine st0 ⟨?_⟩|((with_reducible refine SplS.mk (fun h=>?_) (fun h=>?_)) <;> first|exact yC|(conv=>whnf))|refine f2 ⟨?_⟩ ⟨?_⟩|refine vP (qL ..) ⟨?_⟩|refine vP (xW ..) ⟨?_⟩|fail)
  all_goals repeat clear hK K1
  all_goals first|exact rfl|exact True.intro|(exact absurd (hw.symm.trans asmR) (by decide))|(exact absurd (hs.symm.trans asmR) (by decide))|skip
theorem qm0 (l : List (K.T .terms)) (h1 : l.length <= 1048576) : CallsF Tryz.prog 125 [.dat (.seq .terms l)] false (fun res B=>(res = .nils /\ B = [] /\ l.length = 0) \/ (res = .row 0 /\ B = [.row 90 .terms l false])) := by
  refine oF Tryz.func125 ⟨?_⟩
  repeat' (first|((with_reducible refine fun (K1 : KT) hK=>?_);refine k7 ⟨?_⟩)|((with_reducible show K1 _ _);subst hK;conv=>whnf)|refine st0 ⟨?_⟩|((with_reducible refine SplS.mk (fun h=>?_) (fun h=>?_)) <;> first|exact yC|(conv=>whnf))|refine f2 ⟨?_⟩ ⟨?_⟩|(intro h;conv=>whnf))
  all_goals repeat clear hK K1
  all_goals first|exact .inl ⟨rfl,rfl,by simp_all⟩|exact .inl ⟨rfl,rfl,by assumption⟩|exact .inr rr|(have hm : maxLen = 9223372036854775807 := rfl;simp;omega)|(show (_ + l.length) * 64 <= _;simp;omega)|skip
theorem qen (l : List (K.T .terms)) (h1 : l.length <= 1048576) : CallsF Tryz.prog 125 [.dat (.seq .terms l)] false (fun res B=>res = .row 0 /\ B = [.row 90 .terms l false]) := qch (qm0 l h1)
theorem qm1 (l : List (K.T .ints)) (h1 : l.length <= 1048576) : CallsF Tryz.prog 38 [.dat (.seq .ints l)] true (fun res B=>(res = .nils /\ B = [] /\ l.length = 0) \/ (res = .row 0 /\ B = [.row 3 .ints l false])) := by
  refine oF Tryz.func38 ⟨?_⟩
  repeat' (first|((with_reducible refine fun (K1 : KT) hK=>?_);refine k7 ⟨?_⟩)|((with_reducible show K1 _ _);subst hK;conv=>whnf)|refine st0 ⟨?_⟩|((with_reducible refine SplS.mk (fun h=>?_) (fun h=>?_)) <;> first|exact yC|(conv=>whnf))|refine f2 ⟨?_⟩ ⟨?_⟩|(intro h;conv=>whnf))
  all_goals repeat clear hK K1
  all_goals first|exact .inl ⟨rfl,rfl,by simp_all⟩|exact .inl ⟨rfl,rfl,by assumption⟩|exact .inr rr|(have hm : maxLen = 9223372036854775807 := rfl;simp;omega)|(show (_ + l.length) * 8 <= _;simp;omega)|skip
theorem wR (l : List (K.T .ints)) (h1 : l.length <= 1048576) : CallsF Tryz.prog 38 [.dat (.seq .ints l)] true (fun res B=>res = .row 0 /\ B = [.row 3 .ints l false]) := qch (qm1 l h1)
theorem i_ClipT (l : List V.Term) : CallsG Tryz.prog 156 [.row 0] [.row 90 .terms l false] 0 (fun res B=>res = .row 0 /\ B = [.row 90 .terms l false]) := by
  refine oG Tryz.func156 ⟨?_⟩
  repeat' (first|((with_reducible refine fun (K1 : KT) hK=>?_);refine k7 ⟨?_⟩)|((with_reducible show K1 _ _);subst hK;conv=>whnf)|(with_reducible exact rfl)|refine f2 ⟨?_⟩ ⟨?_⟩|(intro h;conv=>whnf))
  all_goals repeat clear hK K1
  all_goals first|exact rr|rfl|omega|(simp;done)|skip
theorem i_put (l : List V.Term) (k : Int) (to tw tn : Int) (tm : ByteArray) (tk : List V.Term) (h1 : l.length <= 1048576) (hk : 0 <= k /\ k < l.length) : CallsV Tryz.prog 190 [.dat (.seq .terms l),.dat (.i k),.agg [.dat (.i to),.dat (.i tw),.dat (.i tn),.dat (.str tm),.dat (.seq .terms tk)]] (.dat (.seq .terms (l.set k.toNat ⟨to,tw,tn,tm,tk⟩))) := by
  refine oV Tryz.func190 ⟨?_⟩
  repeat' (first|((with_reducible refine fun (K1 : KT) hK=>?_);refine k7 ⟨?_⟩)|((with_reducible show K1 _ _);subst hK;conv=>whnf)|refine st0 ⟨?_⟩|refine f2 ⟨?_⟩ ⟨?_⟩|refine eS (qen (h1 := ?_) ..) ⟨?_⟩|fail)
  all_goals repeat clear hK K1
  all_goals first|(with_reducible assumption)|exact hk.1|exact hk.2|rfl|omega|skip
theorem qec (l : List V.Term) (to tw tn : Int) (tm : ByteArray) (tk : List V.Term) (h1 : l.length <= 1048576) : CallsV Tryz.prog 127 [.dat (.seq .terms l),.agg [.dat (.i to),.dat (.i tw),.dat (.i tn),.dat (.str tm),.dat (.seq .terms tk)]] (.dat (.seq .terms (l ++ [⟨to,tw,tn,tm,tk⟩]))) := by
  refine oV Tryz.func127 ⟨?_⟩
  repeat' (first|((with_reducible refine fun (K1 : KT) hK=>?_);refine k7 ⟨?_⟩)|((with_reducible show K1 _ _);subst hK;conv=>whnf)|(with_reducible exact rfl)|refine st0 ⟨?_⟩|refine f2 ⟨?_⟩ ⟨?_⟩|refine gS (i_ClipT ..) ⟨?_⟩|refine eS (qen (h1 := ?_) ..) ⟨?_⟩|fail)
  all_goals repeat clear hK K1
  all_goals first|(with_reducible assumption)|rfl|omega|(show (l.length + 1) * 64 <= _;omega)|(show l.length + 1 <= 2 ^ 63 - 1;omega)|skip
theorem qd7 (l : List Int) (n : Int) (h1 : l.length <= 1048576) : CallsV Tryz.prog 161 [.dat (.seq .ints l),.dat (.i n)] (.dat (.seq .ints (l ++ [n]))) := by
  refine oV Tryz.func161 ⟨?_⟩
  repeat' (first|((with_reducible refine fun (K1 : KT) hK=>?_);refine k7 ⟨?_⟩)|((with_reducible show K1 _ _);subst hK;conv=>whnf)|refine st0 ⟨?_⟩|refine f2 ⟨?_⟩ ⟨?_⟩|refine eS (wR (h1 := ?_) ..) ⟨?_⟩|fail)
  all_goals repeat clear hK K1
  all_goals first|(with_reducible assumption)|rfl|omega|(show (l.length + 1) * 8 <= _;omega)|(show l.length + 1 <= 2 ^ 63 - 1;omega)|skip
end Vg
