/- Paths: where a path starts, and the path of some turns. Condition: the program is in order, the turns are 0 or 1. -/
import Derived.Test.YtfhkodimclmcdaaGreatDoorPathL
namespace Vg
open Go Go.Proofs
set_option maxRecDepth 100000
set_option maxHeartbeats 40000000
def s7 (p : V.Prog) : V.Path := ⟨0,List.replicate 4 (cT p.w 0),List.replicate p.mem.toNat (cT p.w 0),[],0,[],0,0,[],[]⟩
theorem gV {t : V.Term} (h : okT t = true) : ∀ n,okTs (List.replicate n t) = true
  | 0=>by rw [List.replicate_zero,okTs]
  | n + 1=>by rw [List.replicate_succ,okTs,h,gV h n];rfl
theorem qpc {p : V.Prog} (h : i4 p = true) : PI p (s7 p) := by
  have hz := qB (zero_word (progP_w h))
  have hM := a7 h
  refine ⟨h,Int.le_refl _, ?_,rfl,gV hz 4, ?_,gV hz _,Nat.zero_le _,(fun x hx=>by cases hx),Int.le_refl _,hM.2.2.2.1,Nat.zero_le _, ?_,Int.le_refl _,(by show (0 : Int) <= 400;decide),Nat.zero_le _, ?_,Nat.zero_le _⟩
  . show (0 : Int) <= _;omega
  . show ((List.replicate p.mem.toNat (cT p.w 0)).length : Int) = _;rw [List.length_replicate];omega
  . show okTs [] = true;rw [okTs]
  . show okTs [] = true;rw [okTs]
theorem qbt {k n : Nat} {z t : V.Term} (h : (k : Int) < n) : (List.replicate k t ++ List.replicate (n - k) z).set (k : Int).toNat t = List.replicate (k + 1) t ++ List.replicate (n - (k + 1)) z := by
  have e : n - k = (n - (k + 1)) + 1 := by omega
  rw [Int.toNat_natCast,List.set_append_right _ _ (by simp),List.length_replicate,Nat.sub_self,e,List.replicate_succ (n := n - (k + 1)),List.set_cons_zero,List.replicate_succ' (n := k),List.append_assoc]
  rfl
theorem qlv (w mem inn : Int) (code : List V.Ins) (hp : i4 ⟨w,mem,inn,code⟩ = true) : CallsV Tryz.prog 52 [.agg [.dat (.i w),.dat (.i mem),.dat (.i inn),.dat (.seq .inss code)]] (kH (s7 ⟨w,mem,inn,code⟩)) := by
  refine oV Tryz.func52 ⟨?_⟩
  intro K1 hK
  (conv=>whnf)
  repeat' (first|(with_reducible exact rfl)|refine y7 ⟨?_⟩|((with_reducible show WEach _ _);refine rA rfl ?_ ?_;conv=>whnf)|refine st0 ⟨?_⟩|((with_reducible refine SplS.mk (fun h=>?_) (fun h=>?_)) <;> first|exact u5|((fail_if_success (have _x : @Eq Bool _ _ := h));subst h;conv=>whnf)|(conv=>whnf))|refine f2 ⟨?_⟩ ⟨?_⟩|refine vE (oD (h := ?_) ..) ⟨?_⟩|(intro h;conv=>whnf))
  subst hK
  (conv=>whnf)
  intro K1 hK
  refine iY rfl ?_
  (conv=>whnf)
  simp only [List.nil_append,List.cons_append]
  refine (fun (key : K1 AX.normal ?S)=>?main) ?rest
  case main =>
    repeat' (first|(with_reducible exact rfl)|refine y7 ⟨?_⟩|((with_reducible show WEach _ _);refine rA rfl ?_ ?_;conv=>whnf)|refine st0 ⟨?_⟩|((with_reducible refine SplS.mk (fun h=>?_) (fun h=>?_)) <;> first|exact u5|((fail_if_success (have _x : @Eq Bool _ _ := h));subst h;conv=>whnf)|(conv=>whnf))|refine f2 ⟨?_⟩ ⟨?_⟩|refine vE (oD (h := ?_) ..) ⟨?_⟩|(intro h;conv=>whnf))
    all_goals first|exact key|(have hM := a7 hp;dsimp only at hM;(with_reducible show (_ : Int) <= _);first|omega|(show mem * 64 <= _;omega)|(show mem <= (((2 ^ 63 - 1 : Nat)) : Int);omega)|(show (4 : Int) * 64 <= _;omega)|(show (4 : Int) <= (((2 ^ 63 - 1 : Nat)) : Int);omega))|(refine st_eq key (fun j=>?_) (fun j=>?_) <;> (by_cases e3 : j = 3;(subst e3;exact rfl);by_cases e6 : j = 6;(subst e6;exact rfl);by_cases e9 : j = 9;(subst e9;exact rfl);by_cases e10 : j = 10;(subst e10;exact rfl);simp only [updT_ne,updB_ne,killB_ne,killT_at,ne_eq,e3,e6,e9,e10,not_false_eq_true];try simp only [kill_comm 6 3,kill_comm 9 3,kill_comm 9 6,okill_comm 6 3,okill_comm 9 3,okill_comm 9 6]))|skip
  repeat' (first|((with_reducible refine fun (K1 : KT) hK=>?_);refine r3 ⟨?_⟩)|((with_reducible show K1 _ _);subst hK;conv=>whnf)|(with_reducible exact rfl)|refine y7 ⟨?_⟩|((with_reducible show WEach _ _);refine rA rfl ?_ ?_;conv=>whnf)|refine st0 ⟨?_⟩|((with_reducible refine SplS.mk (fun h=>?_) (fun h=>?_)) <;> first|exact u5|((fail_if_success (have _x : @Eq Bool _ _ := h));subst h;conv=>whnf)|(conv=>whnf))|refine f2 ⟨?_⟩ ⟨?_⟩|(refine y5 ({k : Nat // (k : Int) <= mem}) (fun ⟨k,hk⟩=>x5 Tryz.f52.ntmps [(1,.ptr 1 0),(2,.ptr 2 0),(3,.ptr 3 0),(27,.dat (.i mem)),(28,.dat (.i k))] [(1,.box [.dat (.i w),.dat (.i mem),.dat (.i inn),.dat (.seq .inss code)]),(2,.box [.dat (.i 0),.nils,.nils,.nils,.dat (.i 0),.nils,.dat (.i 0),.dat (.i 0),.nils,.nils]),(3,.box [.dat (.i 0),.row 6,.row 9,.nils,.dat (.i 0),.nils,.dat (.i 0),.dat (.i 0),.nils,.nils]),(6,.row 90 .terms (List.replicate 4 (cT w 0)) false),(9,.row 90 .terms (List.replicate k (cT w 0) ++ List.replicate (mem.toNat - k) zT) false)]) (fun ⟨k,hk⟩=>mem.toNat - k) ⟨0, ?_⟩ (SubP.sub (σ := [(1,some 1),(2,some 2),(3,some 3),(6,some 6),(9,some 9)]) ⟨⟨rfl,rfl,rfl⟩,⟨rr,rr,rr,o0 ?_,o0 ?_,trivial⟩,⟨⟨j0 ?_,j0 ?_,j0 ?_,j0 ?_,trivial⟩,⟨j0 ?_,trivial,trivial,trivial,j0 ?_,trivial,j0 ?_,j0 ?_,trivial,trivial,trivial⟩,⟨j0 ?_,rfl,rfl,trivial,j0 ?_,trivial,j0 ?_,j0 ?_,trivial,trivial,trivial⟩,⟨rr, ?_⟩,⟨rr, ?_⟩,trivial⟩⟩) (fun ⟨k,hk⟩=>?_);rotate_right;conv=>whnf)|(refine b6 (⟨k + 1, ?_⟩ : {k : Nat // (k : Int) <= mem}) ?_ (SubP.sub (σ := [(1,some 1),(2,some 2),(3,some 3),(6,some 6),(9,some 9)]) ⟨⟨rfl,rfl,rfl⟩,⟨rr,rr,rr,o0 ?_,o0 ?_,trivial⟩,⟨⟨j0 ?_,j0 ?_,j0 ?_,j0 ?_,trivial⟩,⟨j0 ?_,trivial,trivial,trivial,j0 ?_,trivial,j0 ?_,j0 ?_,trivial,trivial,trivial⟩,⟨j0 ?_,rfl,rfl,trivial,j0 ?_,trivial,j0 ?_,j0 ?_,trivial,trivial,trivial⟩,⟨rr, ?_⟩,⟨rr, ?_⟩,trivial⟩⟩))|(refine y5 ({k : Nat // k <= 4}) (fun ⟨k,hk⟩=>x5 Tryz.f52.ntmps [(1,.ptr 1 0),(2,.ptr 2 0),(3,.ptr 3 0),(13,.dat (.i 4)),(14,.dat (.i k))] [(1,.box [.dat (.i w),.dat (.i mem),.dat (.i inn),.dat (.seq .inss code)]),(2,.box [.dat (.i 0),.nils,.nils,.nils,.dat (.i 0),.nils,.dat (.i 0),.dat (.i 0),.nils,.nils]),(3,.box [.dat (.i 0),.row 6,.row 9,.nils,.dat (.i 0),.nils,.dat (.i 0),.dat (.i 0),.nils,.nils]),(6,.row 90 .terms (List.replicate k (cT w 0) ++ List.replicate (4 - k) zT) false),(9,.row 90 .terms (List.replicate mem.toNat zT) false)]) (fun ⟨k,hk⟩=>4 - k) ⟨0,Nat.zero_le _⟩ (SubP.sub (σ := [(1,some 1),(2,some 2),(3,some 3),(6,some 6),(9,some 9)]) ⟨⟨rfl,rfl,rfl⟩,⟨rr,rr,rr,o0 ?_,o0 ?_,trivial⟩,⟨⟨j0 ?_,j0 ?_,j0 ?_,j0 ?_,trivial⟩,⟨j0 ?_,trivial,trivial,trivial,j0 ?_,trivial,j0 ?_,j0 ?_,trivial,trivial,trivial⟩,⟨j0 ?_,rfl,rfl,trivial,j0 ?_,trivial,j0 ?_,j0 ?_,trivial,trivial,trivial⟩,⟨rr, ?_⟩,⟨rr, ?_⟩,trivial⟩⟩) (fun ⟨k,hk⟩=>?_);rotate_right;conv=>whnf)|(refine b6 (⟨k + 1, ?_⟩ : {k : Nat // k <= 4}) ?_ (SubP.sub (σ := [(1,some 1),(2,some 2),(3,some 3),(6,some 6),(9,some 9)]) ⟨⟨rfl,rfl,rfl⟩,⟨rr,rr,rr,o0 ?_,o0 ?_,trivial⟩,⟨⟨j0 ?_,j0 ?_,j0 ?_,j0 ?_,trivial⟩,⟨j0 ?_,trivial,trivial,trivial,j0 ?_,trivial,j0 ?_,j0 ?_,trivial,trivial,trivial⟩,⟨j0 ?_,rfl,rfl,trivial,j0 ?_,trivial,j0 ?_,j0 ?_,trivial,trivial,trivial⟩,⟨rr, ?_⟩,⟨rr, ?_⟩,trivial⟩⟩))|refine vE (oD (h := ?_) ..) ⟨?_⟩|(intro h;conv=>whnf))
  all_goals repeat clear hK K1
  all_goals (have hM := a7 hp;dsimp only at hM)
  all_goals first|exact True.intro|((with_reducible show wordP _ _ = true);exact zero_word (progP_w hp))|((with_reducible show fE _ _ _);first|exact rfl|(have e4 : mem.toNat = k := omG;show Dat.seq K.terms (List.replicate mem.toNat (cT w 0)) = Dat.seq K.terms (List.replicate k (cT w 0) ++ List.replicate (mem.toNat - k) zT);rw [e4,Nat.sub_self,List.replicate_zero,List.append_nil]))|((with_reducible show _ = _);first|exact congrArg (Sigma.mk K.terms) (qbt (n := 4) omG).symm|exact congrArg (Sigma.mk K.terms) (qbt (n := mem.toNat) omG).symm|(refine congrArg (Dat.int .i64) ?_;rw [j3 omG omG];rfl)|exact rfl|(refine congrArg Dat.i ?_;simp only [List.length_replicate];omega)|(refine congrArg (Sigma.mk K.terms) ?_;have e4 : k = 4 := omG;subst e4;simp only [Nat.sub_self,List.replicate_zero,List.append_nil])|(refine congrArg (Sigma.mk K.terms) ?_;simp only [Nat.sub_self,List.replicate_zero,List.append_nil,Nat.sub_zero,List.nil_append])|(refine congrArg (Dat.seq K.terms) ?_;have e4 : mem.toNat = k := omG;show List.replicate mem.toNat _ = _;rw [e4,Nat.sub_self,List.replicate_zero,List.append_nil]))|((with_reducible show (_ : Int) <= _);first|omega|(show mem * 64 <= _;omega)|(show mem <= (((2 ^ 63 - 1 : Nat)) : Int);omega)|(show (4 : Int) * 64 <= _;omega)|(show (4 : Int) <= (((2 ^ 63 - 1 : Nat)) : Int);omega))|((with_reducible show (_ : Int) < _);first|omega|(simp only [List.length_append,List.length_replicate];omega))|((with_reducible show (_ : Nat) < _);first|((try dsimp only);omega)|(simp only [List.length_append,List.length_replicate];omega))|((with_reducible show _ <= _);omega)|skip
/-! ### the path of some turns -/
def dN (l : List Int) : Bool := l.all fun n=>decide (n = 0 \/ n = 1)
theorem uD (s : V.Path) : (⟨s.pc,s.regs,s.mem,s.stack,s.inn,s.out,s.code,s.steps,s.cond,s.turns⟩ : V.Path) = s := rfl
section
variable {p : V.Prog} {tr : List Int} {fuel : Int} {k u : Nat} {s : V.Path}
end
theorem qlr (l : List Int) : CallsV Tryz.prog 106 [.dat (.seq .ints l)] (.dat (.bool (dN l))) := by
  refine oV Tryz.func106 ⟨?_⟩
  repeat' (first|((with_reducible refine fun (K1 : KT) hK=>?_);refine r3 ⟨?_⟩)|((with_reducible show K1 _ _);subst hK;conv=>whnf)|(with_reducible exact rfl)|refine st0 ⟨?_⟩|((with_reducible refine SplS.mk (fun h=>?_) (fun h=>?_)) <;> first|exact o4|(subst h;conv=>whnf)|(conv=>whnf))|refine f2 ⟨?_⟩ ⟨?_⟩|(refine y5 ({k : Nat // (l.take k).all (fun n=>decide (n = 0 \/ n = 1)) = true}) (fun ⟨k,hall⟩=>x5 Tryz.f106.ntmps [(5,.dat (.seq .ints l)),(6,.dat (.i l.length)),(7,.dat (.i k))] []) (fun ⟨k,hall⟩=>l.length - k) ⟨0,rfl⟩ (SubP.sub (σ := []) ⟨⟨rfl,rfl,rfl⟩,⟨o0 ?_,o0 ?_,o0 ?_,trivial⟩,trivial⟩) (fun ⟨k,hall⟩=>?_);rotate_right;conv=>whnf)|(refine b6 (⟨k + 1, ?_⟩ : {k : Nat // (l.take k).all (fun n=>decide (n = 0 \/ n = 1)) = true}) ?_ (SubP.sub (σ := []) ⟨⟨rfl,rfl,rfl⟩,⟨o0 ?_,o0 ?_,o0 ?_,trivial⟩,trivial⟩))|(intro h;conv=>whnf))
  all_goals repeat clear hK K1
  all_goals first|((with_reducible show (_ : Int) <= _);omega)|((with_reducible show (_ : Int) < _);with_reducible assumption)|((with_reducible show (_ : Nat) < _);(dsimp only;omega))|exact congrArg (Dat.int .i64) (wrap_succ asmR asmR).symm|exact rfl|(simp only [Int.toNat_natCast] at *;rw [lH K.ints.dflt asmR,hall];exact decide_eq_true omG)|(simp only [Int.toNat_natCast] at *;refine congrArg Dat.bool ?_;unfold dN;exact gK (d := K.ints.dflt) asmR (decide_eq_false omG))|(refine congrArg Dat.bool ?_;unfold dN;exact tM asmR hall)|skip
end Vg
