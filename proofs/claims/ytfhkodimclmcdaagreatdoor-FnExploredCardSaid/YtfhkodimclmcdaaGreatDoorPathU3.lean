/- Paths: contract of what the reference does with an operation. Condition: the path is one under way (PI). -/
import Derived.Test.YtfhkodimclmcdaaGreatDoorPathT
namespace Vg
open Go Go.Proofs
set_option maxRecDepth 100000
set_option maxHeartbeats 40000000
section
variable {p : V.Prog} {s : V.Path} {a b c : Int} {x y : V.Term}
theorem no_3 : p5 p s ⟨3,a,b,c⟩ = ({ s with regs := s.regs.set a.toNat (w9 p c (rgT s a) (rgT s b)).1,pc := s.pc + 1 },(w9 p c (rgT s a) (rgT s b)).2) := by
  have e : g5 p s ⟨3,a,b,c⟩ = 0 := by
    unfold g5
    rw [if_neg (fun q=>absurd (show (3 : Int) = 5 from q.1) (by decide)),if_neg (fun q=>absurd (show (3 : Int) = 6 from q.1) (by decide)),if_neg (fun q=>absurd (show (3 : Int) = 11 from q.1) (by decide)),if_neg (fun q=>absurd (show (3 : Int) = 12 from q.1) (by decide))]
  rw [cL (show ¬ (3 : Int) = 14 by decide) e (show ¬ (3 : Int) = 7 by decide) (show ¬ (3 : Int) = 8 by decide)]
  rfl
theorem op_a (h : (s1 c (e8 c p.w) 0 [x,y]).2 = false) : w9 p c x y = s1 c (e8 c p.w) 0 [x,y] := by
  unfold w9
  rw [if_pos (.inl h)]
theorem op_b (h : ¬ c >= 14) : w9 p c x y = s1 c (e8 c p.w) 0 [x,y] := by
  unfold w9
  rw [if_pos (.inr omG)]
theorem op_c (h : c >= 14) (h2 : (s1 c (e8 c p.w) 0 [x,y]).2 = true) : w9 p c x y = s1 20 p.w 0 [(s1 c (e8 c p.w) 0 [x,y]).1] := by
  unfold w9
  rw [if_neg (fun q=>q.elim (fun e=>by rw [h2] at e;cases e) (fun e=>by omega))]
end
theorem qiw (w mem inn : Int) (code : List V.Ins) (pc : Int) (rg mm : List V.Term) (sk : List Int) (ic : Int) (ot : List V.Term) (cd sp : Int) (cn : List V.Term) (tr : List Int) (a b c : Int) (bd : Bool) (M : Int -> Int -> Int -> List V.Term -> V.Term × Bool) (hM : M = s1) (hb : bd = false) (hP : PI ⟨w,mem,inn,code⟩ ⟨pc,rg,mm,sk,ic,ot,cd,sp,cn,tr⟩) (hi : j5 ⟨3,a,b,c⟩ w code.length = true) (hpc : pc < code.length) (ha : AddrOk ⟨w,mem,inn,code⟩ ⟨pc,rg,mm,sk,ic,ot,cd,sp,cn,tr⟩ ⟨3,a,b,c⟩) (hc : cd = 0) : CallsG Tryz.prog 65 [.ptr 0 0,.agg [.dat (.i w),.dat (.i mem),.dat (.i inn),.dat (.seq .inss code)],.agg [.dat (.i pc),.dat (.seq .terms rg),.dat (.seq .terms mm),.dat (.seq .ints sk),.dat (.i ic),.dat (.seq .terms ot),.dat (.i cd),.dat (.i sp),.dat (.seq .terms cn),.dat (.seq .ints tr)],.agg [.dat (.i 3),.dat (.i a),.dat (.i b),.dat (.i c)]] [.box [.dat (.bool bd)]] 1 (fun res B=>res = .agg [.dat (.i (p5 ⟨w,mem,inn,code⟩ ⟨pc,rg,mm,sk,ic,ot,cd,sp,cn,tr⟩ ⟨3,a,b,c⟩).1.pc),.row 1,.row 2,.row 3,.dat (.i (p5 ⟨w,mem,inn,code⟩ ⟨pc,rg,mm,sk,ic,ot,cd,sp,cn,tr⟩ ⟨3,a,b,c⟩).1.inn),.row 4,.dat (.i (p5 ⟨w,mem,inn,code⟩ ⟨pc,rg,mm,sk,ic,ot,cd,sp,cn,tr⟩ ⟨3,a,b,c⟩).1.code),.dat (.i (p5 ⟨w,mem,inn,code⟩ ⟨pc,rg,mm,sk,ic,ot,cd,sp,cn,tr⟩ ⟨3,a,b,c⟩).1.steps),.row 5,.row 6] /\ B = [.box [.dat (.bool (!(p5 ⟨w,mem,inn,code⟩ ⟨pc,rg,mm,sk,ic,ot,cd,sp,cn,tr⟩ ⟨3,a,b,c⟩).2))],.row 90 .terms (p5 ⟨w,mem,inn,code⟩ ⟨pc,rg,mm,sk,ic,ot,cd,sp,cn,tr⟩ ⟨3,a,b,c⟩).1.regs false,.row 90 .terms (p5 ⟨w,mem,inn,code⟩ ⟨pc,rg,mm,sk,ic,ot,cd,sp,cn,tr⟩ ⟨3,a,b,c⟩).1.mem false,.row 3 .ints (p5 ⟨w,mem,inn,code⟩ ⟨pc,rg,mm,sk,ic,ot,cd,sp,cn,tr⟩ ⟨3,a,b,c⟩).1.stack false,.row 90 .terms (p5 ⟨w,mem,inn,code⟩ ⟨pc,rg,mm,sk,ic,ot,cd,sp,cn,tr⟩ ⟨3,a,b,c⟩).1.out false,.row 90 .terms (p5 ⟨w,mem,inn,code⟩ ⟨pc,rg,mm,sk,ic,ot,cd,sp,cn,tr⟩ ⟨3,a,b,c⟩).1.cond false,.row 3 .ints (p5 ⟨w,mem,inn,code⟩ ⟨pc,rg,mm,sk,ic,ot,cd,sp,cn,tr⟩ ⟨3,a,b,c⟩).1.turns false]) := by
  refine oG Tryz.func65 ⟨?_⟩
  repeat' (first|((with_reducible refine fun (K1 : KT) hK=>?_);refine r3 ⟨?_⟩)|((with_reducible show K1 _ _);subst hK;conv=>whnf)|(with_reducible exact rfl)|refine y7 ⟨?_⟩|((with_reducible show WEach _ _);refine rA rfl ?_ ?_;conv=>whnf)|refine st0 ⟨?_⟩|((with_reducible refine SplS.mk (fun h=>?_) (fun h=>?_)) <;> first|exact u5|((fail_if_success (have _x : @Eq Bool _ _ := h));subst h;conv=>whnf)|(conv=>whnf))|refine f2 ⟨?_⟩ ⟨?_⟩|refine eS (lQ (h := ?_) ..) ⟨?_⟩|refine vS (qjp (ho := ?_) (hw := ?_) ..) ⟨?_⟩|refine gS (qba (hM := by assumption) (hb := ?_) (hn := ?_) ..) ⟨?_⟩|(intro h;conv=>whnf))
  all_goals repeat clear hK K1
  all_goals (subst hM;subst hc;have rl : rg.length = 4 := hP.rl;have ml : (mm.length : Int) = mem := hP.ml;have sl : sk.length <= 3 := hP.sl;have ol : ot.length <= 6 := hP.ol;have pc0 : 0 <= pc := hP.pc0;have i0 : 0 <= ic := hP.i0;have i1 : ic <= inn := hP.i1;have hM := a7 hP.hp;dsimp only at hM;have hw1 : IntKind.i64.wrap (pc + 1) = pc + 1 := j3 omG omG;have hw2 : IntKind.i64.wrap (ic + 1) = ic + 1 := j3 omG omG;try simp only [V.Term.eta,Bool.not_eq_false',Bool.not_eq_true',hw1,hw2] at *)
  all_goals first|exact True.intro|(with_reducible exact hP.cp)|(with_reducible exact hb)|((with_reducible show inP _ 1 16 = true);exact progP_w hP.hp)|((with_reducible show (3 : Int) <= _);exact (qR hi rfl).1)|((with_reducible show _ <= (16 : Int));exact (qR hi rfl).2)|((with_reducible show (_ : Int) <= _);first|omega|exact (ins_a hi omG).1|exact (i8 hi omG).1)|((with_reducible show (_ : Int) < _);first|omega|(have q := ins_a hi omG;omega)|(have q := i8 hi omG;omega))|((with_reducible show (_ : Nat) < _);first|omega|(have q := ins_a hi omG;omega)|(have q := i8 hi omG;omega))|((with_reducible show okTs _ = true);first|exact xH (hP.reg (ins_a hi omG)) (hP.reg (i8 hi omG))|exact kJ (eB (by assumption)).1)|(with_reducible assumption)|((with_reducible show (_ : List Blk) = _);rw [no_3];first|(rw [op_a (by assumption)] <;> exact rfl)|(rw [op_b (by assumption),hb] <;> exact rfl)|(rw [op_b (by assumption)] <;> exact rfl)|(rw [op_c (by assumption) (by assumption)] <;> exact rfl))|((with_reducible show (_ : AV) = _);rw [no_3] <;> exact rfl)|skip
end Vg
