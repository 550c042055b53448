/- The program's values of inputs, and the path of a test: contracts. Conditions: the program is in order, the inputs are its inputs. -/
import Derived.Test.YtfhkodimclmcdaaGreatDoorEvI
import Derived.Test.YtfhkodimclmcdaaGreatDoorEvS
namespace Vg
open Go Go.Proofs
set_option maxRecDepth 100000
set_option maxHeartbeats 40000000
def aF (w : Int) (l : List Int) (k : Nat) : List V.Val := d9 w l k ++ List.replicate (l.length - k) (⟨ByteArray.empty,0,0⟩ : V.Val)
theorem va_0 {w : Int} {l : List Int} : aF w l 0 = List.replicate l.length (⟨ByteArray.empty,0,0⟩ : V.Val) := by unfold aF d9;rfl
theorem qac {w : Int} {l : List Int} {k : Nat} (h : k <= l.length) : (aF w l k).length = l.length := by unfold aF;rw [List.length_append,bJ,List.length_replicate];omega
theorem va_e {w : Int} {l : List Int} : aF w l l.length = d9 w l l.length := by unfold aF;rw [Nat.sub_self,List.replicate_zero,List.append_nil]
theorem va_s {w : Int} {l : List Int} {k : Nat} (h : (k : Int) < l.length) : aF w l (k + 1) = (aF w l k).set (k : Int).toNat ⟨⟨#[105]⟩ ++ lA k,w,l.getD (k : Int).toNat K.ints.dflt⟩ := by
  unfold aF
  rw [Int.toNat_natCast,List.set_append_right _ _ (by rw [bJ];exact Nat.le_refl _),bJ,Nat.sub_self,show l.length - k = (l.length - (k + 1)) + 1 by omega,List.replicate_succ,List.set_cons_zero,qh4,List.append_assoc]
  rfl
theorem va_fin {w : Int} {l : List Int} {k : Nat} (h : l.length = k) : Dat.seq K.vals (d9 w l l.length) = Dat.seq K.vals (aF w l k) := by subst h;rw [va_e]
theorem qed (w mem inn : Int) (code : List V.Ins) (inp : List Int) (hl : inp.length <= 3) : CallsV Tryz.prog 36 [.agg [.dat (.i w),.dat (.i mem),.dat (.i inn),.dat (.seq .inss code)],.dat (.seq .ints inp)] (.dat (.seq .vals (d9 w inp inp.length))) := by
  refine oV Tryz.func36 ⟨?_⟩
  repeat' (first|((with_reducible refine fun (K1 : KT) hK=>?_);refine r3 ⟨?_⟩)|((with_reducible show K1 _ _);subst hK;conv=>whnf)|(with_reducible exact rfl)|refine st0 ⟨?_⟩|((with_reducible refine SplS.mk (fun h=>?_) (fun h=>?_)) <;> first|exact o4|(subst h;conv=>whnf)|(conv=>whnf))|refine f2 ⟨?_⟩ ⟨?_⟩|(refine y5 ({k : Nat // k <= inp.length}) (fun ⟨k,hk⟩=>x5 Tryz.f36.ntmps [(2,.ptr 2 0),(5,.row 5),(11,.dat (.seq .ints inp)),(12,.dat (.i inp.length)),(13,.dat (.i k))] [(2,.box [.dat (.i w),.dat (.i mem),.dat (.i inn),.dat (.seq .inss code)]),(5,.row 112 .vals (aF w inp k) false)]) (fun ⟨k,hk⟩=>inp.length - k) ⟨0,Nat.zero_le _⟩ (SubP.sub (σ := [(2,some 2),(5,some 10)]) ⟨⟨rfl,rfl,rfl⟩,⟨rr,rfl,o0 ?_,o0 ?_,o0 ?_,trivial⟩,⟨⟨j0 ?_,j0 ?_,j0 ?_,j0 ?_,trivial⟩,⟨rr, ?_⟩,trivial⟩⟩) (fun ⟨k,hk⟩=>?_);rotate_right;conv=>whnf)|(refine b6 (⟨k + 1, ?_⟩ : {k : Nat // k <= inp.length}) ?_ (SubP.sub (σ := [(2,some 2),(5,some 5)]) ⟨⟨rfl,rfl,rfl⟩,⟨rr,rfl,o0 ?_,o0 ?_,o0 ?_,trivial⟩,⟨⟨j0 ?_,j0 ?_,j0 ?_,j0 ?_,trivial⟩,⟨rr, ?_⟩,trivial⟩⟩))|refine vE (qek (h0 := ?_) (h1 := ?_) ..) ⟨?_⟩|(intro h;conv=>whnf))
  all_goals repeat clear hK K1
  all_goals first|(with_reducible assumption)|exact congrArg (Dat.int .i64) (wrap_succ asmR asmR).symm|exact congrArg (Sigma.mk K.vals) (va_s asmR)|exact congrArg (Sigma.mk K.vals) va_0|(show 1 + 1 <= 2 ^ 63 - 1;decide)|((with_reducible show (_ : Int) <= _);first|omega|(have l3 : (inp.length : Int) <= 3 := omG;show (inp.length : Int) * 40 <= _;omega)|(show (inp.length : Int) * 32 <= _;omega))|((with_reducible show (_ : Int) < _);first|omega|(rw [qac hk];omega))|((with_reducible show (_ : Nat) <= _);omega)|((with_reducible show (_ : Nat) < _);first|((try dsimp only);omega)|(rw [qac hk];omega))|exact va_fin omG|exact rfl|skip
/-! ### the path of a test -/
section
variable {p : V.Prog} {x : List Int} {fuel : Int} {k : Nat} {s : V.Path}
end
end Vg
