/- Paths: contracts of the program's follow, divide, step. Condition: the path is one under way (PI), the instruction is the program's. -/
import Derived.Test.YtfhkodimclmcdaaGreatDoorPathI
namespace Vg
open Go Go.Proofs
set_option maxRecDepth 100000
set_option maxHeartbeats 40000000
section
variable {p : V.Prog} {s : V.Path} {a b c : Int}
theorem stk5 (h : g5 p s ⟨5,a,b,c⟩ = 0) : s.inn < p.inn := by
  unfold g5 at h
  by_cases q : p.inn <= s.inn
  . rw [if_pos ⟨rfl,q⟩] at h;cases h
  . omega
theorem stk12 (h : g5 p s ⟨12,a,b,c⟩ = 0) : 0 < s.stack.length := by
  unfold g5 at h
  rw [if_neg (fun q=>absurd (show (12 : Int) = 5 from q.1) (by decide)),if_neg (fun q=>absurd (show (12 : Int) = 6 from q.1) (by decide)),if_neg (fun q=>absurd (show (12 : Int) = 11 from q.1) (by decide))] at h
  by_cases q : (s.stack.length : Int) = 0
  . rw [if_pos ⟨rfl,q⟩] at h;cases h
  . omega
theorem fS {op : Int} (h1 : ¬ op = 1) (h2 : ¬ op = 2) (h3 : ¬ op = 3) (h4 : ¬ op = 4) (h5 : ¬ op = 5) (h6 : ¬ op = 6) (h7 : ¬ op = 7) (h8 : ¬ op = 8) (h9 : ¬ op = 9) (h11 : ¬ op = 11) (h12 : ¬ op = 12) (h14 : ¬ op = 14) :
    i6 p s ⟨op,a,b,c⟩ = ({ s with pc := s.pc + 1 },true) := by
  unfold i6
  rw [if_neg h1,if_neg h2,if_neg h3,if_neg h4,if_neg h5,if_neg h6,if_neg h7,if_neg h8,if_neg h9,if_neg h11,if_neg h12,if_neg h14]
end
theorem qme (w mem inn : Int) (code : List V.Ins) (pc : Int) (rg mm : List V.Term) (sk : List Int) (ic : Int) (ot : List V.Term) (cd sp : Int) (cn : List V.Term) (tr : List Int) (op a b c : Int) (hP : PI ⟨w,mem,inn,code⟩ ⟨pc,rg,mm,sk,ic,ot,cd,sp,cn,tr⟩) (hi : j5 ⟨op,a,b,c⟩ w code.length = true) (hpc : pc < code.length) (hk : g5 ⟨w,mem,inn,code⟩ ⟨pc,rg,mm,sk,ic,ot,cd,sp,cn,tr⟩ ⟨op,a,b,c⟩ = 0) (ha : AddrOk ⟨w,mem,inn,code⟩ ⟨pc,rg,mm,sk,ic,ot,cd,sp,cn,tr⟩ ⟨op,a,b,c⟩) : CallsV Tryz.prog 159 [.agg [.dat (.i w),.dat (.i mem),.dat (.i inn),.dat (.seq .inss code)],.agg [.dat (.i pc),.dat (.seq .terms rg),.dat (.seq .terms mm),.dat (.seq .ints sk),.dat (.i ic),.dat (.seq .terms ot),.dat (.i cd),.dat (.i sp),.dat (.seq .terms cn),.dat (.seq .ints tr)],.agg [.dat (.i op),.dat (.i a),.dat (.i b),.dat (.i c)]] (.tup [kH (i6 ⟨w,mem,inn,code⟩ ⟨pc,rg,mm,sk,ic,ot,cd,sp,cn,tr⟩ ⟨op,a,b,c⟩).1,.dat (.bool (i6 ⟨w,mem,inn,code⟩ ⟨pc,rg,mm,sk,ic,ot,cd,sp,cn,tr⟩ ⟨op,a,b,c⟩).2)]) := by
  refine oV Tryz.func159 ⟨?_⟩
  repeat' (first|((with_reducible refine fun (K1 : KT) hK=>?_);refine r3 ⟨?_⟩)|((with_reducible show K1 _ _);subst hK;conv=>whnf)|(with_reducible exact rfl)|refine y7 ⟨?_⟩|refine st0 ⟨?_⟩|((with_reducible refine SplS.mk (fun h=>?_) (fun h=>?_)) <;> first|exact o4|(subst h;conv=>whnf)|(conv=>whnf))|refine f2 ⟨?_⟩ ⟨?_⟩|refine vS (i_put (h1 := ?_) (hk := ?_) ..) ⟨?_⟩|refine vE (oD (h := ?_) ..) ⟨?_⟩|refine vP (ql8 (hp := ?_) (ho := ?_) ..) ⟨?_⟩|refine vE (qmo (hw := ?_) (hs := ?_) ..) ⟨?_⟩|refine vE (qek (h0 := ?_) (h1 := ?_) ..) ⟨?_⟩|refine vE (qec (h1 := ?_) ..) ⟨?_⟩|refine vP (qmb (hp := ?_) (hm := ?_) (hx := ?_) ..) ⟨?_⟩|refine vP (qlt (hp := ?_) (hm := ?_) (hx := ?_) ..) ⟨?_⟩|refine vP (qd7 (h1 := ?_) ..) ⟨?_⟩|refine eS (wR (h1 := ?_) ..) ⟨?_⟩|((with_reducible refine y9 (g := 124) ?_);(conv=>whnf);refine ⟨_,_,jO ..,rfl,zV ?_⟩;rotate_right;conv=>whnf)|(intro h;conv=>whnf))
  all_goals repeat clear hK K1
  all_goals (have rl : rg.length = 4 := hP.rl;have ml : (mm.length : Int) = mem := hP.ml;have sl : sk.length <= 3 := hP.sl;have ol : ot.length <= 6 := hP.ol;have pc0 : 0 <= pc := hP.pc0;have i0 : 0 <= ic := hP.i0;have i1 : ic <= inn := hP.i1;have hM := a7 hP.hp;dsimp only at hM;have hw1 : IntKind.i64.wrap (pc + 1) = pc + 1 := j3 omG omG;have hw2 : IntKind.i64.wrap (ic + 1) = ic + 1 := j3 omG omG;have hw3 : IntKind.i64.wrap ((sk.length : Int) - 1) = (sk.length : Int) - 1 := j3 omG omG;(try simp only [V.Term.eta]);(try rw [hw1]);(try rw [hw2]);(try rw [hw3]);(try rw [show ((sk.length : Int) - 1).toNat = sk.length - 1 by omega]))
  all_goals first|((with_reducible show frzM _ (kH _) _);first|exact fr10M rfl|exact ⟨rfl,rfl,rfl,rfl,rfl,rfl,rfl,rfl,rfl,rfl,True.intro⟩|exact fr10M (congrArg Prod.fst (fS asmR asmR asmR asmR asmR asmR asmR asmR asmR asmR asmR asmR )))|((with_reducible show frzM _ (.dat (.bool _)) _);first|exact frB rfl|exact frB (congrArg Prod.snd (fS asmR asmR asmR asmR asmR asmR asmR asmR asmR asmR asmR asmR ))|exact rfl)|((with_reducible show wordP _ _ = true);exact rW hi rfl)|((with_reducible show inP _ 1 16 = true);exact progP_w hP.hp)|(with_reducible exact hP.hp)|(with_reducible exact ml)|((with_reducible show LdX _ _);first|exact ⟨fun e=>ha.l rfl e⟩|exact ⟨fun e=>ha.s rfl e⟩)|((with_reducible show isNameP _ = true);have q : ic < inn := stk5 hk;exact qcn hP.i0 (by show ic <= 9;omega))|(exact (qR hi rfl).1)|(exact (qR hi rfl).2)|((with_reducible show (_ : Int) <= _);first|exact (ins_a hi omG).1|exact (i8 hi omG).1|exact i0|(have q : ic < inn := stk5 hk;omega)|(have q : 0 < sk.length := stk12 hk;omega))|((with_reducible show (_ : Int) < _);first|(have q := ins_a hi omG;omega)|(have q := i8 hi omG;omega)|(have q : 0 < sk.length := stk12 hk;omega))|((with_reducible show _ <= _);first|omega|(simp only [List.length_take];omega)|(show (1 + 1 : Nat) <= 2 ^ 63 - 1;omega))|skip
section
variable {p : V.Prog} {s : V.Path} {i : V.Ins}
theorem qg8 (h1 : (f3 p s i).2 = true) (hb : r5 i = false) : AddrOk p s i := uS h1 (fun e=>by rw [hb] at e;cases e)
theorem rY (h1 : (f3 p s i).2 = true) (hn : ¬ ((f3 p s i).1.op = 0 /\ (f3 p s i).1.n = 1)) : AddrOk p s i := uS h1 (fun _=>hn)
theorem dv_1 (h : (f3 p s i).2 = false) : g9 p s i = [{ s with code := 9 }] := by
  unfold g9
  rw [if_pos h]
theorem dv_2 (h1 : (f3 p s i).2 = true) (ha : r5 i = true) (hc : (f3 p s i).1.op = 0 /\ (f3 p s i).1.n = 1) : g9 p s i = [p9 s i] := by
  unfold g9
  rw [if_neg (by rw [h1];decide),if_pos ⟨ha,hc⟩]
structure NoYes (p : V.Prog) (s : V.Path) (i : V.Ins) : Prop where
  h : ¬ (r5 i = true /\ (f3 p s i).1.op = 0 /\ (f3 p s i).1.n = 1)
theorem rN (h : r5 i = false) : NoYes p s i := ⟨fun q=>by rw [h] at q;cases q.1⟩
theorem ny_2 (h : ¬ ((f3 p s i).1.op = 0 /\ (f3 p s i).1.n = 1)) : NoYes p s i := ⟨fun q=>h q.2⟩
theorem dv_3 (h1 : (f3 p s i).2 = true) (hn : NoYes p s i) (hf : (i6 p s i).2 = false) : g9 p s i = [{ s with code := 9 }] := by
  unfold g9
  rw [if_neg (by rw [h1];decide),if_neg hn.h,if_pos hf]
theorem dv_4 (h1 : (f3 p s i).2 = true) (hn : NoYes p s i) (hf : (i6 p s i).2 = true) (hr : r5 i = false \/ (f3 p s i).1.op = 0) : g9 p s i = [(i6 p s i).1] := by
  unfold g9
  rw [if_neg (by rw [h1];decide),if_neg hn.h,if_neg (by rw [hf];decide),if_pos hr]
theorem dv_5 (h1 : (f3 p s i).2 = true) (ha : r5 i = true) (h0 : ¬ (f3 p s i).1.op = 0) (hf : (i6 p s i).2 = true) (hb : (s1 1 1 0 [(f3 p s i).1]).2 = false \/ 60 <= s.cond.length \/ 60 <= s.turns.length) : g9 p s i = [{ s with code := 9 }] := by
  unfold g9
  rw [if_neg (by rw [h1];decide),if_neg (fun q=>h0 q.2.1),if_neg (by rw [hf];decide),if_neg (fun q=>q.elim (fun e=>by rw [ha] at e;cases e) h0),if_pos hb]
theorem dv_6 (h1 : (f3 p s i).2 = true) (ha : r5 i = true) (h0 : ¬ (f3 p s i).1.op = 0) (hf : (i6 p s i).2 = true) (hb : (s1 1 1 0 [(f3 p s i).1]).2 = true) (hc : ¬ 60 <= s.cond.length) (ht : ¬ 60 <= s.turns.length) :
    g9 p s i = [{ p9 s i with cond := s.cond ++ [(f3 p s i).1],turns := s.turns ++ [1] },{ (i6 p s i).1 with cond := s.cond ++ [(s1 1 1 0 [(f3 p s i).1]).1],turns := s.turns ++ [0] }] := by
  unfold g9
  rw [if_neg (by rw [h1];decide),if_neg (fun q=>h0 q.2.1),if_neg (by rw [hf];decide),if_neg (fun q=>q.elim (fun e=>by rw [ha] at e;cases e) h0),if_neg (fun q=>q.elim (fun e=>by rw [hb] at e;cases e) (fun q=>q.elim hc ht))]
theorem stp_1 (h : ¬ s.code = 0) : u0 p s = [] := by
  unfold u0
  rw [if_pos (.inl h)]
theorem stp_2 (h : 400 <= s.steps) : u0 p s = [] := by
  unfold u0
  rw [if_pos (.inr h)]
theorem stp_3 (h : s.code = 0) (h2 : ¬ 400 <= s.steps) (h3 : s.pc = p.code.length) : u0 p s = [{ s with code := 2 }] := by
  unfold u0
  rw [if_neg omG,if_pos h3]
theorem stp_4 (h : s.code = 0) (h2 : ¬ 400 <= s.steps) (h3 : ¬ s.pc = p.code.length) (hk : ¬ g5 p { s with steps := s.steps + 1 } (p.code.getD s.pc.toNat K.inss.dflt) = 0) : u0 p s = [{ s with steps := s.steps + 1,code := g5 p { s with steps := s.steps + 1 } (p.code.getD s.pc.toNat K.inss.dflt) }] := by
  unfold u0
  rw [if_neg omG,if_neg h3,if_pos hk]
theorem fJ (h : s.code = 0) (h2 : ¬ 400 <= s.steps) (h3 : ¬ s.pc = p.code.length) (hk : g5 p { s with steps := s.steps + 1 } (p.code.getD s.pc.toNat K.inss.dflt) = 0) : u0 p s = g9 p { s with steps := s.steps + 1 } (p.code.getD s.pc.toNat K.inss.dflt) := by
  unfold u0
  rw [if_neg omG,if_neg h3,if_neg (by rw [hk];decide)]
end
theorem qmh (w mem inn : Int) (code : List V.Ins) (pc : Int) (rg mm : List V.Term) (sk : List Int) (ic : Int) (ot : List V.Term) (cd sp : Int) (cn : List V.Term) (tr : List Int) (op a b c : Int) (hP : PI ⟨w,mem,inn,code⟩ ⟨pc,rg,mm,sk,ic,ot,cd,sp,cn,tr⟩) (hi : j5 ⟨op,a,b,c⟩ w code.length = true) (hpc : pc < code.length) (hk : g5 ⟨w,mem,inn,code⟩ ⟨pc,rg,mm,sk,ic,ot,cd,sp,cn,tr⟩ ⟨op,a,b,c⟩ = 0) : CallsV Tryz.prog 130 [.agg [.dat (.i w),.dat (.i mem),.dat (.i inn),.dat (.seq .inss code)],.agg [.dat (.i pc),.dat (.seq .terms rg),.dat (.seq .terms mm),.dat (.seq .ints sk),.dat (.i ic),.dat (.seq .terms ot),.dat (.i cd),.dat (.i sp),.dat (.seq .terms cn),.dat (.seq .ints tr)],.agg [.dat (.i op),.dat (.i a),.dat (.i b),.dat (.i c)]] (.dat (.seq .paths (g9 ⟨w,mem,inn,code⟩ ⟨pc,rg,mm,sk,ic,ot,cd,sp,cn,tr⟩ ⟨op,a,b,c⟩))) := by
  refine oV Tryz.func130 ⟨?_⟩
  repeat' (first|((with_reducible refine fun (K1 : KT) hK=>?_);refine r3 ⟨?_⟩)|((with_reducible show K1 _ _);subst hK;conv=>whnf)|refine st0 ⟨?_⟩|((with_reducible refine SplS.mk (fun h=>?_) (fun h=>?_)) <;> first|exact u5|(subst h;conv=>whnf)|(conv=>whnf))|refine vP (ql6 (hp := ?_) (hr := ?_) (hi := ?_) ..) ⟨?_⟩|refine vP (kI ..) ⟨?_⟩|refine vP (i_named ..) ⟨?_⟩|refine vP (qme (hP := ?_) (hi := ?_) (hpc := ?_) (hk := ?_) (ha := ?_) ..) ⟨?_⟩|refine vP (pF ..) ⟨?_⟩|refine vP (qec (h1 := ?_) ..) ⟨?_⟩|refine vP (qd7 (h1 := ?_) ..) ⟨?_⟩|((with_reducible refine y9 (g := 124) ?_);(conv=>whnf);refine ⟨_,_,jO ..,rfl,zV ?_⟩;rotate_right;conv=>whnf)|(intro h;conv=>whnf))
  all_goals repeat clear hK K1
  all_goals (have cl : cn.length <= 60 := hP.cl;have tl : tr.length <= 60 := hP.tl;(try simp only [V.Term.eta] at *))
  all_goals first|(with_reducible exact hP)|(with_reducible exact hi)|(with_reducible exact hpc)|(with_reducible exact hk)|(with_reducible exact hP.hp)|exact hP.rl|((with_reducible show _ <= _);omega)|((with_reducible show AddrOk _ _ _);first|exact qg8 asmR asmR|exact rY asmR asmR)|(refine congrArg (Dat.seq K.paths) ?_;first|exact dv_1 asmR|exact dv_2 asmR asmR asmR|exact dv_3 asmR (rN asmR) asmR|exact dv_3 asmR (ny_2 asmR) asmR|exact dv_4 asmR (rN asmR) asmR (.inl asmR)|exact dv_4 asmR (ny_2 asmR) asmR (.inr asmR)|exact dv_5 asmR asmR asmR asmR (.inl asmR)|exact dv_5 asmR asmR asmR asmR (.inr (.inl (by show 60 <= cn.length;omega)))|exact dv_5 asmR asmR asmR asmR (.inr (.inr (by show 60 <= tr.length;omega)))|exact dv_6 asmR asmR asmR asmR asmR (by show ¬ 60 <= cn.length;omega) (by show ¬ 60 <= tr.length;omega))|skip
theorem qlu (w mem inn : Int) (code : List V.Ins) (pc : Int) (rg mm : List V.Term) (sk : List Int) (ic : Int) (ot : List V.Term) (cd sp : Int) (cn : List V.Term) (tr : List Int) (hP : PI ⟨w,mem,inn,code⟩ ⟨pc,rg,mm,sk,ic,ot,cd,sp,cn,tr⟩) : CallsV Tryz.prog 92 [.agg [.dat (.i w),.dat (.i mem),.dat (.i inn),.dat (.seq .inss code)],.agg [.dat (.i pc),.dat (.seq .terms rg),.dat (.seq .terms mm),.dat (.seq .ints sk),.dat (.i ic),.dat (.seq .terms ot),.dat (.i cd),.dat (.i sp),.dat (.seq .terms cn),.dat (.seq .ints tr)]] (.dat (.seq .paths (u0 ⟨w,mem,inn,code⟩ ⟨pc,rg,mm,sk,ic,ot,cd,sp,cn,tr⟩))) := by
  refine oV Tryz.func92 ⟨?_⟩
  repeat' (first|((with_reducible refine fun (K1 : KT) hK=>?_);refine r3 ⟨?_⟩)|((with_reducible show K1 _ _);subst hK;conv=>whnf)|refine st0 ⟨?_⟩|((with_reducible refine SplS.mk (fun h=>?_) (fun h=>?_)) <;> first|exact o4|(subst h;conv=>whnf)|(conv=>whnf))|refine f2 ⟨?_⟩ ⟨?_⟩|refine vP (i_stuck ..) ⟨?_⟩|refine vP (qmh (hP := ?_) (hi := ?_) (hpc := ?_) (hk := ?_) ..) ⟨?_⟩|(intro h;conv=>whnf))
  all_goals repeat clear hK K1
  all_goals (have st0 : 0 <= sp := hP.st0;have st1 : sp <= 400 := hP.st1;have hw : IntKind.i64.wrap (sp + 1) = sp + 1 := j3 omG omG;(try simp only [hw] at *);(try (have pc0 : 0 <= pc := hP.pc0;have pc1 : pc <= code.length := hP.pc1)))
  all_goals first|exact congrArg List.length (stp_1 asmR)|exact congrArg List.length (stp_2 (by show 400 <= sp;omega))|((with_reducible show Dat.seq _ _ = _);refine congrArg (Dat.seq K.paths) ?_;first|exact stp_3 rfl (by show ¬ 400 <= sp;omega) rfl|exact stp_4 rfl (by show ¬ 400 <= sp;omega) (by assumption) (by assumption)|exact fJ rfl (by show ¬ 400 <= sp;omega) (by assumption) (by assumption))|((with_reducible show PI _ _);exact hP.steps (by show sp < 400;omega))|((with_reducible show j5 _ _ _ = true);exact mN hP.hp hP.pc0 (by show pc < code.length;omega))|(with_reducible assumption)|((with_reducible show (_ : Int) < _);omega)|skip
end Vg
