/- The reference's maker of terms. Condition: terms are good. -/
import Derived.Test.YtfhkodimclmcdaaGreatDoorTermMS
import Derived.Test.YtfhkodimclmcdaaGreatDoorPathI
namespace Vg
open Go Go.Proofs
set_option maxRecDepth 100000 in
theorem jN (b : Bool) (op w : Int) (ks : List V.Term) (hb : b = false) (hn : okTs ks = true) : CallsG Tryz.prog 67 [.ptr 0 0,.dat (.i op),.dat (.i w),.row 1] [.box [.dat (.bool b)],.row 90 .terms ks false] 1 (fun res B=>res = i5 (s1 op w 0 ks).1 /\ B = [.box [.dat (.bool (!(s1 op w 0 ks).2))]]) := by
  refine oG Tryz.func67 ⟨?_⟩
  repeat' (first|((with_reducible refine fun (K1 : KT) hK=>?_);refine r3 ⟨?_⟩)|((with_reducible show K1 _ _);subst hK;conv=>whnf)|refine st0 ⟨?_⟩|((with_reducible refine SplS.mk (fun h=>?_) (fun h=>?_)) <;> first|exact yC|(conv=>whnf))|refine f2 ⟨?_⟩ ⟨?_⟩|((with_reducible refine y9 (g := 101) ?_);(conv=>whnf);refine ⟨_,_,qjr (hn := ?_) ..,rfl,zV ?_⟩;rotate_right;conv=>whnf))
  all_goals repeat clear hK K1
  all_goals first|(rw [hb,show (s1 op w 0 ks).2 = _ from h];exact rfl)|exact iV hn|exact rfl|(rw [show (s1 op w 0 ks).2 = _ from h];exact rfl)|skip
set_option maxRecDepth 100000
set_option maxHeartbeats 40000000
structure CpOk (s : V.Path) : Prop where
  ro : okTs s.regs = true
  mo : okTs s.mem = true
  oo : okTs s.out = true
  co : okTs s.cond = true
  rl : s.regs.length <= 1000
  ml : s.mem.length <= 1000
  sl : s.stack.length <= 1000
  ol : s.out.length <= 1000
  cl : s.cond.length <= 1000
  tl : s.turns.length <= 1000
theorem xH {t u : V.Term} (h : okT t = true) (h2 : okT u = true) : okTs [t,u] = true := by rw [okTs,okTs,okTs,h,h2];rfl
theorem qb9 {t u v : V.Term} (h : okT t = true) (h2 : okT u = true) (h3 : okT v = true) : okTs [t,u,v] = true := by rw [okTs,okTs,okTs,okTs,h,h2,h3];rfl
theorem mkP_bad {op w n : Int} {ks : List V.Term} (h : (s1 op w n ks).2 = false) : s1 op w n ks = (zT,false) := by
  unfold s1 at h ⊢
  by_cases c : i7 (oT op w n ks) = true
  . rw [if_pos c] at h;cases h
  . rw [if_neg c]
theorem bxB {t u : Bool} (h : t = u) : [Blk.box [AV.dat (Dat.bool u)]] = [Blk.box [AV.dat (Dat.bool (t))]] := by rw [h]
theorem tup_y {x : V.Term × Bool} {t : V.Term} (h : x.1 = t) : AV.tup [.agg [.dat (.i t.op),.dat (.i t.w),.dat (.i t.n),.dat (.str t.name),.dat (.seq .terms t.kids)],.dat (.bool true)] = AV.tup [i5 x.1,.dat (.bool true)] := by rw [h];rfl
theorem PI.cp {p : V.Prog} {s : V.Path} (h : PI p s) : CpOk s := by
  have h1 := h.rl;have h2 := h.ml;have h3 := h.sl;have h4 := h.ol;have h5 := h.cl;have h6 := h.tl;have h7 := a7 h.hp
  exact ⟨h.ro,h.mo,h.oo,h.co,by omega,by omega,by omega,by omega,by omega,by omega⟩
theorem qjg (l : List V.Term) (hl : okTs l = true) (h1 : l.length <= 1000) : CallsF Tryz.prog 96 [.dat (.seq .terms l)] false (fun res B=>res = .row 0 /\ B = [.row 90 .terms l false]) := by
  refine oF Tryz.func96 ⟨?_⟩
  repeat' (first|((with_reducible refine fun (K1 : KT) hK=>?_);refine r3 ⟨?_⟩)|((with_reducible show K1 _ _);subst hK;conv=>whnf)|(with_reducible exact rfl)|refine st0 ⟨?_⟩|((with_reducible refine SplS.mk (fun h=>?_) (fun h=>?_)) <;> first|exact o4|(subst h;conv=>whnf)|(conv=>whnf))|refine f2 ⟨?_⟩ ⟨?_⟩|(refine y5 ({k : Nat // k <= l.length}) (fun ⟨k,hk⟩=>x5 Tryz.f96.ntmps [(3,.row 3),(7,.dat (.seq .terms l)),(8,.dat (.i l.length)),(9,.dat (.i k))] [(3,.row 90 .terms (l.take k) false)]) (fun ⟨k,hk⟩=>l.length - k) ⟨0,Nat.zero_le _⟩ (SubP.sub (σ := [(3,some 6)]) ⟨⟨rfl,rfl,rfl⟩,⟨rfl,o0 ?_,o0 ?_,o0 ?_,trivial⟩,⟨⟨rr, ?_⟩,trivial⟩⟩) (fun ⟨k,hk⟩=>?_);rotate_right;conv=>whnf)|(refine b6 (⟨k + 1, ?_⟩ : {k : Nat // k <= l.length}) ?_ (SubP.sub (σ := [(3,some 17)]) ⟨⟨rfl,rfl,rfl⟩,⟨rfl,o0 ?_,o0 ?_,o0 ?_,trivial⟩,⟨⟨rr, ?_⟩,trivial⟩⟩))|refine vP (qbc (hk := ?_) ..) ⟨?_⟩|(intro h;conv=>whnf))
  all_goals repeat clear hK K1
  all_goals first|((with_reducible show (_ : Int) <= _);omega)|((with_reducible show (_ : Int) < _);with_reducible assumption)|((with_reducible show okT _ = true);exact qb8 asmR hl)|((with_reducible show (_ : Nat) < _);(dsimp only;omega))|(refine congrArg (Dat.int .i64) ?_;rw [j3 omG omG];rfl)|exact congrArg (Sigma.mk K.terms) ((qaj asmR).trans rfl)|((with_reducible show _ * _ <= _);have l4 := zP (ks := l) hk;rw [l4];exact Nat.le_trans (Nat.mul_le_mul_right _ (show k + 1 <= 1001 by omega)) (by decide))|((with_reducible show _ + _ <= _);have l4 := zP (ks := l) hk;rw [l4];show k + 1 <= 2 ^ 63 - 1;omega)|((with_reducible show _ <= _);omega)|(have e : l.take k = l := (wT (ks := l) (k := k) omG);rw [e];exact rfl)|exact rfl|skip
theorem lQ (pc : Int) (rg mm : List V.Term) (sk : List Int) (ic : Int) (ot : List V.Term) (cd sp : Int) (cn : List V.Term) (tr : List Int) (h : CpOk ⟨pc,rg,mm,sk,ic,ot,cd,sp,cn,tr⟩) : CallsF Tryz.prog 62 [.agg [.dat (.i pc),.dat (.seq .terms rg),.dat (.seq .terms mm),.dat (.seq .ints sk),.dat (.i ic),.dat (.seq .terms ot),.dat (.i cd),.dat (.i sp),.dat (.seq .terms cn),.dat (.seq .ints tr)]] false (fun res B=>res = .agg [.dat (.i pc),.row 0,.row 1,.row 2,.dat (.i ic),.row 3,.dat (.i cd),.dat (.i sp),.row 4,.row 5] /\ B = [.row 90 .terms rg false,.row 90 .terms mm false,.row 3 .ints sk false,.row 90 .terms ot false,.row 90 .terms cn false,.row 3 .ints tr false]) := by
  refine oF Tryz.func62 ⟨?_⟩
  repeat' (first|((with_reducible refine fun (K1 : KT) hK=>?_);refine r3 ⟨?_⟩)|((with_reducible show K1 _ _);subst hK;conv=>whnf)|refine st0 ⟨?_⟩|refine f2 ⟨?_⟩ ⟨?_⟩|refine eS (qjg (hl := ?_) (h1 := ?_) ..) ⟨?_⟩|fail)
  all_goals repeat clear hK K1
  all_goals first|exact h.ro|exact h.mo|exact h.oo|exact h.co|exact h.rl|exact h.ml|exact h.ol|exact h.cl|(have q := h.sl;have q2 := h.tl;dsimp only at q q2;have hm : maxLen = 9223372036854775807 := rfl;first|omega|(simp;omega)|(show (_ + _) * 8 <= _;simp;omega))|exact rfl|skip
theorem qiy (w mem inn : Int) (code : List V.Ins) (k : Int) (h0 : 0 <= k) (h1 : k <= 2) : CallsV Tryz.prog 98 [.agg [.dat (.i w),.dat (.i mem),.dat (.i inn),.dat (.seq .inss code)],.dat (.i k)] (i5 (varT w k)) := by
  refine oV Tryz.func98 ⟨?_⟩
  repeat' (first|((with_reducible refine fun (K1 : KT) hK=>?_);refine r3 ⟨?_⟩)|((with_reducible show K1 _ _);subst hK;conv=>whnf)|(with_reducible refine a8 ?_)|refine st0 ⟨?_⟩|refine f2 ⟨?_⟩ ⟨?_⟩|refine vE (qjv (h0 := ?_) (h1 := ?_) ..) ⟨?_⟩|fail)
  all_goals repeat clear hK K1
  all_goals first|exact h0|exact h1|exact rfl|exact (show (2 : Nat) <= maxLen by decide)|exact ⟨rfl,rfl,rfl,rfl,rfl,True.intro⟩|exact ⟨⟨rfl,rfl,rfl,rfl,rfl,True.intro⟩⟩|skip
theorem qit (pc : Int) (rg mm : List V.Term) (sk : List Int) (ic : Int) (ot : List V.Term) (cd sp : Int) (cn : List V.Term) (tr : List Int) (op a b c : Int) : CallsV Tryz.prog 66 [.agg [.dat (.i pc),.dat (.seq .terms rg),.dat (.seq .terms mm),.dat (.seq .ints sk),.dat (.i ic),.dat (.seq .terms ot),.dat (.i cd),.dat (.i sp),.dat (.seq .terms cn),.dat (.seq .ints tr)],.agg [.dat (.i op),.dat (.i a),.dat (.i b),.dat (.i c)]] (kH (p9 ⟨pc,rg,mm,sk,ic,ot,cd,sp,cn,tr⟩ ⟨op,a,b,c⟩)) := by
  refine oV Tryz.func66 ⟨?_⟩
  repeat' (first|((with_reducible refine fun (K1 : KT) hK=>?_);refine r3 ⟨?_⟩)|((with_reducible show K1 _ _);subst hK;conv=>whnf)|(with_reducible refine a8 ?_)|refine st0 ⟨?_⟩|((with_reducible refine SplS.mk (fun h=>?_) (fun h=>?_)) <;> first|exact o4|(subst h;conv=>whnf)|(conv=>whnf)))
  all_goals repeat clear hK K1
  all_goals first|exact ⟨fr10 rfl⟩|exact ⟨fr10 (qcl asmR asmR asmR)⟩|skip
theorem qi2 (w mem inn : Int) (code : List V.Ins) (pc : Int) (rg mm : List V.Term) (sk : List Int) (ic : Int) (ot : List V.Term) (cd sp : Int) (cn : List V.Term) (tr : List Int) (op a b c : Int) (hP : PI ⟨w,mem,inn,code⟩ ⟨pc,rg,mm,sk,ic,ot,cd,sp,cn,tr⟩) (hi : j5 ⟨op,a,b,c⟩ w code.length = true) : CallsG Tryz.prog 63 [.ptr 0 0,.agg [.dat (.i w),.dat (.i mem),.dat (.i inn),.dat (.seq .inss code)],.agg [.dat (.i pc),.dat (.seq .terms rg),.dat (.seq .terms mm),.dat (.seq .ints sk),.dat (.i ic),.dat (.seq .terms ot),.dat (.i cd),.dat (.i sp),.dat (.seq .terms cn),.dat (.seq .ints tr)],.agg [.dat (.i op),.dat (.i a),.dat (.i b),.dat (.i c)]] [.box [.dat (.bool false)]] 1 (fun res B=>(r5 ⟨op,a,b,c⟩ = true /\ res = .tup [i5 (f3 ⟨w,mem,inn,code⟩ ⟨pc,rg,mm,sk,ic,ot,cd,sp,cn,tr⟩ ⟨op,a,b,c⟩).1,.dat (.bool true)] /\ B = [.box [.dat (.bool (!(f3 ⟨w,mem,inn,code⟩ ⟨pc,rg,mm,sk,ic,ot,cd,sp,cn,tr⟩ ⟨op,a,b,c⟩).2))]]) \/ (r5 ⟨op,a,b,c⟩ = false /\ res = .tup [.agg [.dat (.i 0),.dat (.i 0),.dat (.i 0),.dat (.str ByteArray.empty),.nils],.dat (.bool false)] /\ B = [.box [.dat (.bool false)]])) := by
  refine oG Tryz.func63 ⟨?_⟩
  repeat' (first|((with_reducible refine fun (K1 : KT) hK=>?_);refine r3 ⟨?_⟩)|((with_reducible show K1 _ _);subst hK;conv=>whnf)|(with_reducible exact rfl)|refine y7 ⟨?_⟩|((with_reducible show WEach _ _);refine rA rfl ?_ ?_;conv=>whnf)|refine st0 ⟨?_⟩|((with_reducible refine SplS.mk (fun h=>?_) (fun h=>?_)) <;> first|exact u5|(subst h;conv=>whnf)|(conv=>whnf))|refine f2 ⟨?_⟩ ⟨?_⟩|refine vP (cG ..) ⟨?_⟩|refine gS (jN (hb := ?_) (hn := ?_) ..) ⟨?_⟩|fail)
  all_goals repeat clear hK K1
  all_goals (have hp : i4 ⟨w,mem,inn,code⟩ = true := hP.hp;have hr : rg.length = 4 := hP.rl;try simp only [V.Term.eta] at *)
  all_goals first|((with_reducible show (_ : Int) <= _);first|(exact (ins_a hi omG).1)|(exact (i8 hi omG).1)|omega)|((with_reducible show (_ : Int) < _);first|(have q := ins_a hi omG;omega)|(have q := i8 hi omG;omega)|omega)|((with_reducible show okTs _ = true);first|exact xH (qB (zero_word (progP_w hp))) (hP.reg (ins_a hi omG))|exact xH (qB (zero_word (progP_w hp))) (hP.reg (i8 hi omG))|exact xH (hP.reg (ins_a hi omG)) (qB (a7 hp).2.2.1)|exact xH (hP.reg (i8 hi omG)) (qB (a7 hp).2.2.1)|exact kJ (eB asmR).1)|((with_reducible show _ \/ _);first|exact .inl ⟨rfl,rfl,rfl⟩|exact .inl ⟨rfl,tup_y (congrArg Prod.fst (eT (p := ⟨w,mem,inn,code⟩) asmR)),bxB (congrArg Bool.not (congrArg Prod.snd (eT (p := ⟨w,mem,inn,code⟩) asmR)))⟩|exact .inl ⟨rfl,tup_y ((congrArg Prod.fst (fT (p := ⟨w,mem,inn,code⟩) asmR)).trans (congrArg Prod.fst (mkP_bad asmR)).symm),bxB ((congrArg Bool.not (congrArg Prod.snd (fT (p := ⟨w,mem,inn,code⟩) asmR))).trans (congrArg Bool.not asmR).symm)⟩|exact .inr ⟨qg5 asmR asmR,True.intro,True.intro⟩|exact .inr ⟨qg4 asmR asmR asmR asmR asmR,True.intro,True.intro⟩)|exact congrArg Bool.not (show _ = true from by with_reducible assumption)|skip
end Vg
