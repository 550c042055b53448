/- Sessions: contracts of the functions that look at them, and of the law FnExactSessionOk. Condition: lists are no longer than the law lets through. -/
import Derived.Test.YtfhkodimclmcdaaGreatDoorBase
namespace Vg
open Go Go.Proofs
set_option maxRecDepth 100000
set_option maxHeartbeats 40000000
def s8 (p : V.Prog) (l : List Int) : Bool := i4 p && (l.all (fun x=>wordP p.w x) && (l.length == p.inn))
theorem qi3 (l : List Int) (n w : Int) : CallsV Tryz.prog 77 [.dat (.seq .ints l),.dat (.i n),.dat (.i w)] (.dat (.bool (l.all (fun x=>wordP w x) && (l.length == n)))) := by
  refine oV Tryz.func77 ⟨?_⟩
  repeat' (first|((with_reducible refine fun (K1 : KT) hK=>?_);refine w5 ⟨?_⟩)|((with_reducible show K1 _ _);subst hK;conv=>whnf)|(with_reducible exact rfl)|refine st0 ⟨?_⟩|((with_reducible refine SplS.mk (fun h=>?_) (fun h=>?_)) <;> first|exact o4|(subst h;conv=>whnf)|(conv=>whnf))|refine f2 ⟨?_⟩ ⟨?_⟩|(refine y5 ({k : Nat // (l.take k).all (fun x=>wordP w x) = true}) (fun ⟨k,hall⟩=>x5 Tryz.f77.ntmps [(0,.dat (.seq .ints l)),(1,.dat (.i n)),(2,.dat (.i w)),(9,.dat (.seq .ints l)),(10,.dat (.i l.length)),(11,.dat (.i k))] []) (fun ⟨k,hall⟩=>l.length - k) ⟨0,rfl⟩ (SubP.sub (σ := []) ⟨⟨rfl,rfl,rfl⟩,⟨o0 ?_,o0 ?_,o0 ?_,o0 ?_,o0 ?_,o0 ?_,trivial⟩,trivial⟩) (fun ⟨k,hall⟩=>?_);rotate_right;conv=>whnf)|(refine b6 ⟨k + 1, ?_⟩ ?_ (SubP.sub (σ := []) ⟨⟨rfl,rfl,rfl⟩,⟨o0 ?_,o0 ?_,o0 ?_,o0 ?_,o0 ?_,o0 ?_,trivial⟩,trivial⟩))|refine vP (dG ..) ⟨?_⟩|(intro h;conv=>whnf))
  all_goals repeat clear hK K1
  all_goals first|rfl|assumption|omega|(dsimp only;omega)|exact congrArg (Dat.int .i64) (wrap_succ (by assumption) (by assumption)).symm|(rw [lH (K.dflt .ints) (by assumption),hall];exact h)|(rw [gK (f := fun x=>wordP w x) (by assumption) h,Bool.false_and])|(have e := tM (by assumption) hall;rw [e,Bool.true_and])
theorem qlo (w : Int) (l : List Int) : CallsV Tryz.prog 108 [.dat (.i w),.dat (.seq .ints l)] (.dat (.bool (l.all (fun x=>wordP w x)))) := by
  refine oV Tryz.func108 ⟨?_⟩
  repeat' (first|((with_reducible refine fun (K1 : KT) hK=>?_);refine w5 ⟨?_⟩)|((with_reducible show K1 _ _);subst hK;conv=>whnf)|(with_reducible exact rfl)|refine st0 ⟨?_⟩|((with_reducible refine SplS.mk (fun h=>?_) (fun h=>?_)) <;> first|exact o4|(subst h;conv=>whnf)|(conv=>whnf))|refine f2 ⟨?_⟩ ⟨?_⟩|(refine y5 ({k : Nat // (l.take k).all (fun x=>wordP w x) = true}) (fun ⟨k,hall⟩=>x5 Tryz.f108.ntmps [(0,.dat (.i w)),(7,.dat (.seq .ints l)),(8,.dat (.i l.length)),(9,.dat (.i k))] []) (fun ⟨k,hall⟩=>l.length - k) ⟨0,rfl⟩ (SubP.sub (σ := []) ⟨⟨rfl,rfl,rfl⟩,⟨o0 ?_,o0 ?_,o0 ?_,o0 ?_,trivial⟩,trivial⟩) (fun ⟨k,hall⟩=>?_);rotate_right;conv=>whnf)|(refine b6 ⟨k + 1, ?_⟩ ?_ (SubP.sub (σ := []) ⟨⟨rfl,rfl,rfl⟩,⟨o0 ?_,o0 ?_,o0 ?_,o0 ?_,trivial⟩,trivial⟩))|refine vP (bE ..) ⟨?_⟩|(intro h;conv=>whnf))
  all_goals repeat clear hK K1
  all_goals first|rfl|assumption|omega|(dsimp only;omega)|exact congrArg (Dat.int .i64) (wrap_succ (by assumption) (by assumption)).symm|(rw [lH (K.dflt .ints) (by assumption),hall];exact h)|(rw [gK (f := fun x=>wordP w x) (by assumption) h])|(have e := tM (by assumption) hall;rw [e])
theorem qju (w mem inn : Int) (c : List V.Ins) (l : List Int) : CallsV Tryz.prog 39 [.agg [.dat (.i w),.dat (.i mem),.dat (.i inn),.dat (.seq .inss c)],.dat (.seq .ints l)] (.dat (.bool (s8 ⟨w,mem,inn,c⟩ l))) := by
  refine oV Tryz.func39 ⟨?_⟩
  repeat' (first|((with_reducible refine fun (K1 : KT) hK=>?_);refine w5 ⟨?_⟩)|((with_reducible show K1 _ _);subst hK;conv=>whnf)|refine st0 ⟨?_⟩|((with_reducible refine SplS.mk (fun h=>?_) (fun h=>?_)) <;> first|exact o4|(conv=>whnf))|refine vP (kN ..) ⟨?_⟩|refine vP (qi3 ..) ⟨?_⟩|fail)
  all_goals repeat clear hK K1
  all_goals simp only [s8,h,Bool.true_and,Bool.false_and]
theorem qmt (w mem inn : Int) (c : List V.Ins) (l : List Int) : CallsV Tryz.prog 74 [.agg [.dat (.i w),.dat (.i mem),.dat (.i inn),.dat (.seq .inss c)],.dat (.seq .ints l)] (.dat (.bool (s8 ⟨w,mem,inn,c⟩ l))) := by
  refine oV Tryz.func74 ⟨?_⟩
  repeat' (first|((with_reducible refine fun (K1 : KT) hK=>?_);refine w5 ⟨?_⟩)|((with_reducible show K1 _ _);subst hK;conv=>whnf)|refine st0 ⟨?_⟩|((with_reducible refine SplS.mk (fun h=>?_) (fun h=>?_)) <;> first|exact o4|(subst h;conv=>whnf)|(conv=>whnf))|refine vP (wW ..) ⟨?_⟩|refine vP (qlo ..) ⟨?_⟩|(intro h;conv=>whnf))
  all_goals repeat clear hK K1
  all_goals (simp [s8, *];done)
end Vg
