/- Paths: contracts of the program's functions up to a step. Condition: the path is one under way (PI), the instruction is the program's. -/
import Derived.Test.YtfhkodimclmcdaaGreatDoorPathQ
namespace Vg
open Go Go.Proofs
set_option maxRecDepth 100000
set_option maxHeartbeats 40000000
theorem fr10 {B : List Blk} {L : List Nat} {y : V.Path} {pc ic cd sp : Int} {rg mm ot cn : List V.Term} {sk tr : List Int} (h : y = ⟨pc,rg,mm,sk,ic,ot,cd,sp,cn,tr⟩) :
    fE B (.dat (.i y.pc)) (AV.numC L (.dat (.int .i64 pc))) /\ oI B [.dat (.seq .terms y.regs),.dat (.seq .terms y.mem),.dat (.seq .ints y.stack),.dat (.i y.inn),.dat (.seq .terms y.out),.dat (.i y.code),.dat (.i y.steps),.dat (.seq .terms y.cond),.dat (.seq .ints y.turns)]
      [AV.numC L (.dat (.seq .terms rg)),AV.numC L (.dat (.seq .terms mm)),AV.numC L (.dat (.seq .ints sk)),AV.numC L (.dat (.int .i64 ic)),AV.numC L (.dat (.seq .terms ot)),AV.numC L (.dat (.int .i64 cd)),AV.numC L (.dat (.int .i64 sp)),AV.numC L (.dat (.seq .terms cn)),AV.numC L (.dat (.seq .ints tr))] := by
  subst h
  exact ⟨rfl,rfl,rfl,rfl,rfl,rfl,rfl,rfl,rfl,rfl,True.intro⟩
theorem fr10M {B : List Blk} {L : List Nat} {y : V.Path} {pc ic cd sp : Int} {rg mm ot cn : List V.Term} {sk tr : List Int} (h : y = ⟨pc,rg,mm,sk,ic,ot,cd,sp,cn,tr⟩) :
    frzM B (kH y) (AV.numM L (.agg [.dat (.int .i64 pc),.dat (.seq .terms rg),.dat (.seq .terms mm),.dat (.seq .ints sk),.dat (.int .i64 ic),.dat (.seq .terms ot),.dat (.int .i64 cd),.dat (.int .i64 sp),.dat (.seq .terms cn),.dat (.seq .ints tr)])) := by
  subst h
  exact ⟨rfl,rfl,rfl,rfl,rfl,rfl,rfl,rfl,rfl,rfl,True.intro⟩
theorem frB {B : List Blk} {L : List Nat} {t u : Bool} (h : t = u) : frzM B (.dat (.bool t)) (AV.numM L (.dat (.bool u))) := by rw [h];exact rfl
section
variable {p : V.Prog} {s : V.Path} {op a b c : Int}
theorem qR {op w n : Int} (h : j5 ⟨op,a,b,c⟩ w n = true) (ho : op = 3) : 3 <= c /\ c <= 16 := by
  subst ho
  simp [j5,kA,inP] at h
  omega
theorem qcl (h1 : ¬ op = 10) (h2 : ¬ op = 13) (h3 : ¬ op = 3) : p9 s ⟨op,a,b,c⟩ = { s with code := 5 } := by
  unfold p9
  rw [if_neg h1,if_neg h2,if_neg h3]
theorem qg5 (h1 : ¬ c = 6) (h2 : ¬ c = 7) : r5 ⟨3,a,b,c⟩ = false := decide_eq_false (by show ¬ (3 = 10 \/ 3 = 13 \/ ((3 : Int) = 3 /\ (c = 6 \/ c = 7)) \/ 3 = 7 \/ 3 = 8);omega)
theorem qg9 (h1 : ¬ c = 6) (h2 : ¬ c = 7) : f3 p s ⟨3,a,b,c⟩ = (zT,true) := by
  show (if (c = 6 \/ c = 7) then _ else _) = _
  rw [if_neg omG]
theorem qg4 (h1 : ¬ op = 10) (h2 : ¬ op = 13) (h3 : ¬ op = 3) (h7 : ¬ op = 7) (h8 : ¬ op = 8) : r5 ⟨op,a,b,c⟩ = false := decide_eq_false (by show ¬ (op = 10 \/ op = 13 \/ (op = 3 /\ (c = 6 \/ c = 7)) \/ op = 7 \/ op = 8);omega)
theorem qg6 (h1 : ¬ op = 10) (h2 : ¬ op = 13) (h3 : ¬ op = 3) (h7 : ¬ op = 7) (h8 : ¬ op = 8) : f3 p s ⟨op,a,b,c⟩ = (zT,true) := by
  unfold f3
  rw [if_neg (by show ¬ (op = 10 \/ op = 13);omega),if_neg h3,if_neg h7,if_neg h8]
theorem fT {x : V.Term} (h : (s1 15 1 0 [x,cT p.w p.mem]).2 = false) : s9 p x = (zT,false) := by
  unfold s9 gC
  rw [if_neg (by rw [h];decide)]
theorem eT {x : V.Term} (h : (s1 15 1 0 [x,cT p.w p.mem]).2 = true) : s9 p x = s1 1 1 0 [(s1 15 1 0 [x,cT p.w p.mem]).1] := by
  unfold s9 gC
  rw [if_pos h]
theorem qgk {k : Int} {x u v : V.Term} (h : (s1 14 1 0 [cT p.w k,x]).2 = false) : p7 p k x u v = (zT,false) := by
  unfold p7
  rw [if_neg (by rw [h];decide)]
theorem cell_y {k : Int} {x u v : V.Term} (h : (s1 14 1 0 [cT p.w k,x]).2 = true) : p7 p k x u v = s1 17 p.w 0 [(s1 14 1 0 [cT p.w k,x]).1,u,v] := by
  unfold p7
  rw [if_pos h]
theorem bV {u v : V.Term} (h : (s1 op (e8 op p.w) 0 [u,v]).2 = false) : w9 p op u v = s1 op (e8 op p.w) 0 [u,v] := if_pos (.inl h)
theorem aV {u v : V.Term} (h : op < 14) : w9 p op u v = s1 op (e8 op p.w) 0 [u,v] := if_pos (.inr h)
theorem qb4 {u v : V.Term} (h : (s1 op (e8 op p.w) 0 [u,v]).2 = true) (h2 : ¬ op < 14) : w9 p op u v = s1 20 p.w 0 [(s1 op (e8 op p.w) 0 [u,v]).1] := if_neg (fun q=>q.elim (fun e=>by rw [h] at e;cases e) h2)
end
theorem i_named (pc : Int) (rg mm : List V.Term) (sk : List Int) (ic : Int) (ot : List V.Term) (cd sp : Int) (cn : List V.Term) (tr : List Int) (op a b c : Int) : CallsV Tryz.prog 158 [.agg [.dat (.i pc),.dat (.seq .terms rg),.dat (.seq .terms mm),.dat (.seq .ints sk),.dat (.i ic),.dat (.seq .terms ot),.dat (.i cd),.dat (.i sp),.dat (.seq .terms cn),.dat (.seq .ints tr)],.agg [.dat (.i op),.dat (.i a),.dat (.i b),.dat (.i c)]] (kH (p9 ⟨pc,rg,mm,sk,ic,ot,cd,sp,cn,tr⟩ ⟨op,a,b,c⟩)) := by
  refine oV Tryz.func158 ⟨?_⟩
  repeat' (first|((with_reducible refine fun (K1 : KT) hK=>?_);refine r3 ⟨?_⟩)|((with_reducible show K1 _ _);subst hK;conv=>whnf)|(with_reducible refine a8 ?_)|refine st0 ⟨?_⟩|((with_reducible refine SplS.mk (fun h=>?_) (fun h=>?_)) <;> first|exact o4|(subst h;conv=>whnf)|(conv=>whnf)))
  all_goals repeat clear hK K1
  all_goals first|exact ⟨fr10 rfl⟩|exact ⟨fr10 (qcl asmR asmR asmR)⟩|skip
theorem i_stuck (w mem inn : Int) (code : List V.Ins) (pc : Int) (rg mm : List V.Term) (sk : List Int) (ic : Int) (ot : List V.Term) (cd sp : Int) (cn : List V.Term) (tr : List Int) (op a b c : Int) : CallsV Tryz.prog 129 [.agg [.dat (.i w),.dat (.i mem),.dat (.i inn),.dat (.seq .inss code)],.agg [.dat (.i pc),.dat (.seq .terms rg),.dat (.seq .terms mm),.dat (.seq .ints sk),.dat (.i ic),.dat (.seq .terms ot),.dat (.i cd),.dat (.i sp),.dat (.seq .terms cn),.dat (.seq .ints tr)],.agg [.dat (.i op),.dat (.i a),.dat (.i b),.dat (.i c)]] (.dat (.i (g5 ⟨w,mem,inn,code⟩ ⟨pc,rg,mm,sk,ic,ot,cd,sp,cn,tr⟩ ⟨op,a,b,c⟩))) := by
  refine oV Tryz.func129 ⟨?_⟩
  repeat' (first|((with_reducible refine fun (K1 : KT) hK=>?_);refine r3 ⟨?_⟩)|((with_reducible show K1 _ _);subst hK;conv=>whnf)|refine st0 ⟨?_⟩|((with_reducible refine SplS.mk (fun h=>?_) (fun h=>?_)) <;> first|exact o4|(subst h;conv=>whnf)|(conv=>whnf))|(intro h;conv=>whnf))
  all_goals repeat clear hK K1
  all_goals first|(refine qG (Eq.symm ?_);unfold g5;(repeat (first|rw [if_pos (by dsimp only;omega)]|rw [if_neg (by dsimp only;omega)]));done)|skip
theorem qmq (op w : Int) (ho : 3 <= op /\ op <= 16) (hw : inP w 1 16 = true) : CallsV Tryz.prog 230 [.dat (.i op),.dat (.i w)] (.dat (.i (e8 op w))) := by
  refine oV Tryz.func230 ⟨?_⟩
  repeat' (first|((with_reducible refine fun (K1 : KT) hK=>?_);refine r3 ⟨?_⟩)|((with_reducible show K1 _ _);subst hK;conv=>whnf)|refine st0 ⟨?_⟩|((with_reducible refine SplS.mk (fun h=>?_) (fun h=>?_)) <;> first|exact u5|(subst h;conv=>whnf)|(conv=>whnf))|refine vP (qL ..) ⟨?_⟩|fail)
  all_goals repeat clear hK K1
  all_goals first|(refine qG (Eq.symm ?_);unfold e8;(first|rw [if_pos omG]|rw [if_neg omG]);done)|(exfalso;omega)|skip
theorem ql6 (w mem inn : Int) (code : List V.Ins) (pc : Int) (rg mm : List V.Term) (sk : List Int) (ic : Int) (ot : List V.Term) (cd sp : Int) (cn : List V.Term) (tr : List Int) (op a b c : Int) (hp : i4 ⟨w,mem,inn,code⟩ = true) (hr : rg.length = 4) (hi : j5 ⟨op,a,b,c⟩ w code.length = true) : CallsV Tryz.prog 157 [.agg [.dat (.i w),.dat (.i mem),.dat (.i inn),.dat (.seq .inss code)],.agg [.dat (.i pc),.dat (.seq .terms rg),.dat (.seq .terms mm),.dat (.seq .ints sk),.dat (.i ic),.dat (.seq .terms ot),.dat (.i cd),.dat (.i sp),.dat (.seq .terms cn),.dat (.seq .ints tr)],.agg [.dat (.i op),.dat (.i a),.dat (.i b),.dat (.i c)]] (.tup [i5 (f3 ⟨w,mem,inn,code⟩ ⟨pc,rg,mm,sk,ic,ot,cd,sp,cn,tr⟩ ⟨op,a,b,c⟩).1,.dat (.bool (r5 ⟨op,a,b,c⟩)),.dat (.bool (f3 ⟨w,mem,inn,code⟩ ⟨pc,rg,mm,sk,ic,ot,cd,sp,cn,tr⟩ ⟨op,a,b,c⟩).2)]) := by
  refine oV Tryz.func157 ⟨?_⟩
  repeat' (first|((with_reducible refine fun (K1 : KT) hK=>?_);refine r3 ⟨?_⟩)|((with_reducible show K1 _ _);subst hK;conv=>whnf)|(with_reducible exact rfl)|refine y7 ⟨?_⟩|((with_reducible show WEach _ _);refine rA rfl ?_ ?_;conv=>whnf)|refine st0 ⟨?_⟩|((with_reducible refine SplS.mk (fun h=>?_) (fun h=>?_)) <;> first|exact u5|(subst h;conv=>whnf)|(conv=>whnf))|refine f2 ⟨?_⟩ ⟨?_⟩|refine vP (oD (h := ?_) ..) ⟨?_⟩|((with_reducible refine y9 (g := 124) ?_);(conv=>whnf);refine ⟨_,_,jO ..,rfl,zV ?_⟩;rotate_right;conv=>whnf))
  all_goals repeat clear hK K1
  all_goals first|exact True.intro|((with_reducible show (_ : Int) <= _);first|(exact (ins_a hi omG).1)|(exact (i8 hi omG).1)|omega)|((with_reducible show (_ : Int) < _);first|(have q := ins_a hi omG;omega)|(have q := i8 hi omG;omega)|omega)|((with_reducible show wordP _ _ = true);first|exact zero_word (progP_w hp)|exact (a7 hp).2.2.1)|((try simp only [V.Term.eta] at *);first|exact fr5M ((congrArg Prod.fst (eT (p := ⟨w,mem,inn,code⟩) asmR)).trans (V.Term.eta _).symm)|exact frB (congrArg Prod.snd (eT (p := ⟨w,mem,inn,code⟩) asmR))|exact fr5Mn (congrArg Prod.fst (fT (p := ⟨w,mem,inn,code⟩) asmR))|exact frB (congrArg Prod.snd (fT (p := ⟨w,mem,inn,code⟩) asmR))|exact fr5Mn (congrArg Prod.fst (qg9 asmR asmR))|exact frB (congrArg Prod.snd (qg9 asmR asmR))|exact frB (qg5 asmR asmR)|exact fr5Mn (congrArg Prod.fst (qg6 asmR asmR asmR asmR asmR))|exact frB (congrArg Prod.snd (qg6 asmR asmR asmR asmR asmR))|exact frB (qg4 asmR asmR asmR asmR asmR)|exact fr5M (V.Term.eta _).symm|exact frB rfl)|skip
theorem qeg (w mem inn : Int) (code : List V.Ins) (k : Int) (xo xw xn : Int) (xm : ByteArray) (xk : List V.Term) (uo uw un : Int) (um : ByteArray) (uk : List V.Term) (vo vw vn : Int) (vm : ByteArray) (vk : List V.Term) (hk : wordP w k = true) : CallsV Tryz.prog 231 [.agg [.dat (.i w),.dat (.i mem),.dat (.i inn),.dat (.seq .inss code)],.dat (.i k),.agg [.dat (.i xo),.dat (.i xw),.dat (.i xn),.dat (.str xm),.dat (.seq .terms xk)],.agg [.dat (.i uo),.dat (.i uw),.dat (.i un),.dat (.str um),.dat (.seq .terms uk)],.agg [.dat (.i vo),.dat (.i vw),.dat (.i vn),.dat (.str vm),.dat (.seq .terms vk)]] (.tup [i5 (p7 ⟨w,mem,inn,code⟩ k ⟨xo,xw,xn,xm,xk⟩ ⟨uo,uw,un,um,uk⟩ ⟨vo,vw,vn,vm,vk⟩).1,.dat (.bool (p7 ⟨w,mem,inn,code⟩ k ⟨xo,xw,xn,xm,xk⟩ ⟨uo,uw,un,um,uk⟩ ⟨vo,vw,vn,vm,vk⟩).2)]) := by
  refine oV Tryz.func231 ⟨?_⟩
  repeat' (first|((with_reducible refine fun (K1 : KT) hK=>?_);refine r3 ⟨?_⟩)|((with_reducible show K1 _ _);subst hK;conv=>whnf)|(with_reducible exact rfl)|refine y7 ⟨?_⟩|((with_reducible show WEach _ _);refine rA rfl ?_ ?_;conv=>whnf)|refine st0 ⟨?_⟩|((with_reducible refine SplS.mk (fun h=>?_) (fun h=>?_)) <;> first|exact yC|(conv=>whnf))|refine f2 ⟨?_⟩ ⟨?_⟩|refine vP (oD (h := ?_) ..) ⟨?_⟩|((with_reducible refine y9 (g := 124) ?_);(conv=>whnf);refine ⟨_,_,jO ..,rfl,zV ?_⟩;rotate_right;conv=>whnf))
  all_goals repeat clear hK K1
  all_goals first|exact True.intro|exact hk|((try simp only [V.Term.eta] at *);first|exact fr5M ((congrArg Prod.fst (cell_y (p := ⟨w,mem,inn,code⟩) asmR)).trans (V.Term.eta _).symm)|exact frB (congrArg Prod.snd (cell_y (p := ⟨w,mem,inn,code⟩) asmR))|exact fr5Mn (congrArg Prod.fst (qgk (p := ⟨w,mem,inn,code⟩) asmR))|exact frB (congrArg Prod.snd (qgk (p := ⟨w,mem,inn,code⟩) asmR)))|skip
theorem ql8 (w mem inn : Int) (code : List V.Ins) (op : Int) (uo uw un : Int) (um : ByteArray) (uk : List V.Term) (vo vw vn : Int) (vm : ByteArray) (vk : List V.Term) (hp : i4 ⟨w,mem,inn,code⟩ = true) (ho : 3 <= op /\ op <= 16) : CallsV Tryz.prog 191 [.agg [.dat (.i w),.dat (.i mem),.dat (.i inn),.dat (.seq .inss code)],.dat (.i op),.agg [.dat (.i uo),.dat (.i uw),.dat (.i un),.dat (.str um),.dat (.seq .terms uk)],.agg [.dat (.i vo),.dat (.i vw),.dat (.i vn),.dat (.str vm),.dat (.seq .terms vk)]] (.tup [i5 (w9 ⟨w,mem,inn,code⟩ op ⟨uo,uw,un,um,uk⟩ ⟨vo,vw,vn,vm,vk⟩).1,.dat (.bool (w9 ⟨w,mem,inn,code⟩ op ⟨uo,uw,un,um,uk⟩ ⟨vo,vw,vn,vm,vk⟩).2)]) := by
  refine oV Tryz.func191 ⟨?_⟩
  repeat' (first|((with_reducible refine fun (K1 : KT) hK=>?_);refine r3 ⟨?_⟩)|((with_reducible show K1 _ _);subst hK;conv=>whnf)|(with_reducible exact rfl)|refine y7 ⟨?_⟩|((with_reducible show WEach _ _);refine rA rfl ?_ ?_;conv=>whnf)|refine st0 ⟨?_⟩|((with_reducible refine SplS.mk (fun h=>?_) (fun h=>?_)) <;> first|exact u5|(subst h;conv=>whnf)|(conv=>whnf))|refine f2 ⟨?_⟩ ⟨?_⟩|refine vP (qmq (ho := ?_) (hw := ?_) ..) ⟨?_⟩|((with_reducible refine y9 (g := 124) ?_);(conv=>whnf);refine ⟨_,_,jO ..,rfl,zV ?_⟩;rotate_right;conv=>whnf))
  all_goals repeat clear hK K1
  all_goals first|exact True.intro|exact progP_w hp|((with_reducible show (_ : Int) <= _);omega)|((try simp only [V.Term.eta] at *);first|exact fr5M ((congrArg Prod.fst (qb4 (p := ⟨w,mem,inn,code⟩) asmR asmR)).trans (V.Term.eta _).symm)|exact frB (congrArg Prod.snd (qb4 (p := ⟨w,mem,inn,code⟩) asmR asmR))|exact fr5M ((congrArg Prod.fst (bV (p := ⟨w,mem,inn,code⟩) asmR)).trans (V.Term.eta _).symm)|exact frB ((congrArg Prod.snd (bV (p := ⟨w,mem,inn,code⟩) asmR)).trans asmR)|exact frB (congrArg Prod.snd (bV (p := ⟨w,mem,inn,code⟩) asmR))|exact fr5M ((congrArg Prod.fst (aV (p := ⟨w,mem,inn,code⟩) asmR)).trans (V.Term.eta _).symm)|exact frB ((congrArg Prod.snd (aV (p := ⟨w,mem,inn,code⟩) asmR)).trans asmR)|exact frB (congrArg Prod.snd (aV (p := ⟨w,mem,inn,code⟩) asmR)))|skip
structure LdX (p : V.Prog) (x : V.Term) : Prop where
  h : x.op = 0 -> 0 <= x.n /\ x.n < p.mem
structure LdI (p : V.Prog) (mm : List V.Term) (x : V.Term) (j : Nat) : Prop where
  jl : (j : Int) <= p.mem - 1
  ok : (r6 p mm x j).2 = true
theorem gR {p : V.Prog} {k : Int} (h : i4 p = true) (h0 : 0 <= k) (h1 : k < p.mem) : wordP p.w k = true := by
  have h2 := (a7 h).2.2.1
  obtain ⟨h3,h4,h5⟩ := u4 h2
  exact lC h3 h0 omG
theorem load_n {p : V.Prog} {mm : List V.Term} {x : V.Term} {j : Nat} (ok : (r6 p mm x j).2 = true) : r6 p mm x (j + 1) = p7 p (p.mem - 2 - j) x (kAt mm (p.mem.toNat - 2 - j)) (r6 p mm x j).1 := by
  rw [r6,if_pos ok]
theorem qc8 {p : V.Prog} {mm : List V.Term} {x : V.Term} : ∀ {j m : Nat},(r6 p mm x j).2 = false -> j <= m -> (r6 p mm x m).2 = false
  | j, 0, h, hm => by obtain rfl : j = 0 := by omega
                      exact h
  | j,m + 1,h,hm=>by
    by_cases e : j = m + 1
    . subst e;exact h
    . have := qc8 (m := m) h omG
      rw [r6,if_neg (by rw [this];decide)]
theorem qla {p : V.Prog} {mm : List V.Term} {x : V.Term} {j m : Nat} (h : (r6 p mm x j).2 = false) (hj : 0 < j) (hm : j <= m) : r6 p mm x m = (zT,false) := by
  cases m with
  | zero=>omega
  | succ m =>
    rw [r6]
    by_cases c : (r6 p mm x m).2 = true
    . have e : j = m + 1 := by
        by_cases q : j <= m
        . rw [qc8 h q] at c;cases c
        . omega
      subst e
      rw [if_pos c]
      rw [r6,if_pos c] at h
      unfold p7 at h ⊢
      by_cases z : (s1 14 1 0 [cT p.w (p.mem - 2 - m),x]).2 = true
      . rw [if_pos z] at h ⊢
        unfold s1 at h ⊢
        by_cases y : i7 (oT 17 p.w 0 [(if i7 (oT 14 1 0 [cT p.w (p.mem - 2 - ↑m),x]) = true then (j4 (oT 14 1 0 [cT p.w (p.mem - 2 - ↑m),x]),true) else (zT,false)).1,kAt mm (p.mem.toNat - 2 - m),(r6 p mm x m).1]) = true
        . rw [if_pos y] at h;cases h
        . rw [if_neg y]
      . rw [if_neg z]
    . rw [if_neg c]
section
variable {p : V.Prog} {mm : List V.Term} {x : V.Term} {j : Nat}
theorem pJ (hj : LdI p mm x j) : r6 p mm x (j + 1) = p7 p (p.mem - 2 - j) x (mm.getD (p.mem - 2 - j).toNat K.terms.dflt) (r6 p mm x j).1 := by
  rw [load_n hj.ok,show (p.mem - 2 - (j : Int)).toNat = p.mem.toNat - 2 - j by omega]
theorem ld_ok (hj : LdI p mm x j) (h0 : p.mem - 2 - j >= 0) (h : (p7 p (p.mem - 2 - j) x (mm.getD (p.mem - 2 - j).toNat K.terms.dflt) (r6 p mm x j).1).2 = true) : LdI p mm x (j + 1) :=
  ⟨by omega,by rw [pJ hj];exact h⟩
theorem qdd (hx : ¬ x.op = 0) (hj : LdI p mm x j) (h0 : p.mem - 2 - j >= 0) (h : (p7 p (p.mem - 2 - j) x (mm.getD (p.mem - 2 - j).toNat K.terms.dflt) (r6 p mm x j).1).2 = false) : rB p mm x = (zT,false) := by
  rw [<- pJ hj] at h
  unfold rB
  rw [if_neg hx]
  exact qla h omG omG
theorem qdc (hx : ¬ x.op = 0) (hj : LdI p mm x j) (h0 : ¬ p.mem - 2 - j >= 0) : rB p mm x = ((r6 p mm x j).1,true) := by
  have := hj.jl
  unfold rB
  rw [if_neg hx,show p.mem.toNat - 1 = j by omega,<- hj.ok]
theorem ld_0 (h : i4 p = true) : LdI p mm x 0 := ⟨by have := a7 h;omega,rfl⟩
theorem nL (h : i4 p = true) : (r6 p mm x 0).1 = mm.getD (IntKind.i64.wrap (p.mem - 1)).toNat K.terms.dflt := by
  have := a7 h
  rw [j3 omG omG,show (p.mem - 1).toNat = p.mem.toNat - 1 by omega]
  rfl
end
theorem qmb (w mem inn : Int) (code : List V.Ins) (pc : Int) (rg mm : List V.Term) (sk : List Int) (ic : Int) (ot : List V.Term) (cd sp : Int) (cn : List V.Term) (tr : List Int) (xo xw xn : Int) (xm : ByteArray) (xk : List V.Term) (hp : i4 ⟨w,mem,inn,code⟩ = true) (hm : (mm.length : Int) = mem) (hx : LdX ⟨w,mem,inn,code⟩ ⟨xo,xw,xn,xm,xk⟩) : CallsV Tryz.prog 193 [.agg [.dat (.i w),.dat (.i mem),.dat (.i inn),.dat (.seq .inss code)],.agg [.dat (.i pc),.dat (.seq .terms rg),.dat (.seq .terms mm),.dat (.seq .ints sk),.dat (.i ic),.dat (.seq .terms ot),.dat (.i cd),.dat (.i sp),.dat (.seq .terms cn),.dat (.seq .ints tr)],.agg [.dat (.i xo),.dat (.i xw),.dat (.i xn),.dat (.str xm),.dat (.seq .terms xk)]] (.tup [i5 (rB ⟨w,mem,inn,code⟩ mm ⟨xo,xw,xn,xm,xk⟩).1,.dat (.bool (rB ⟨w,mem,inn,code⟩ mm ⟨xo,xw,xn,xm,xk⟩).2)]) := by
  refine oV Tryz.func193 ⟨?_⟩
  repeat' (first|((with_reducible refine fun (K1 : KT) hK=>?_);refine r3 ⟨?_⟩)|((with_reducible show K1 _ _);subst hK;conv=>whnf)|(with_reducible exact rfl)|refine y7 ⟨?_⟩|((with_reducible show WEach _ _);refine rA rfl ?_ ?_;conv=>whnf)|refine st0 ⟨?_⟩|((with_reducible refine SplS.mk (fun h=>?_) (fun h=>?_)) <;> first|exact u5|(subst h;conv=>whnf)|(conv=>whnf))|refine f2 ⟨?_⟩ ⟨?_⟩|(refine y5 ({j : Nat // LdI ⟨w,mem,inn,code⟩ mm ⟨xo,xw,xn,xm,xk⟩ j}) (fun ⟨j,hj⟩=>x5 Tryz.f193.ntmps [(3,.ptr 3 0),(4,.ptr 4 0),(5,.ptr 5 0),(6,.ptr 6 0),(8,.ptr 8 0),(9,.dat (.i (mem - 2 - j)))] [(3,.box [.dat (.i w),.dat (.i mem),.dat (.i inn),.dat (.seq .inss code)]),(4,.box [.dat (.i pc),.dat (.seq .terms rg),.dat (.seq .terms mm),.dat (.seq .ints sk),.dat (.i ic),.dat (.seq .terms ot),.dat (.i cd),.dat (.i sp),.dat (.seq .terms cn),.dat (.seq .ints tr)]),(5,.box [.dat (.i xo),.dat (.i xw),.dat (.i xn),.dat (.str xm),.dat (.seq .terms xk)]),(6,.box [.dat (.i 0),.dat (.i 0),.dat (.i 0),.dat (.str ByteArray.empty),.nils]),(8,.box [.dat (.i (r6 ⟨w,mem,inn,code⟩ mm ⟨xo,xw,xn,xm,xk⟩ j).1.op),.dat (.i (r6 ⟨w,mem,inn,code⟩ mm ⟨xo,xw,xn,xm,xk⟩ j).1.w),.dat (.i (r6 ⟨w,mem,inn,code⟩ mm ⟨xo,xw,xn,xm,xk⟩ j).1.n),.dat (.str (r6 ⟨w,mem,inn,code⟩ mm ⟨xo,xw,xn,xm,xk⟩ j).1.name),.dat (.seq .terms (r6 ⟨w,mem,inn,code⟩ mm ⟨xo,xw,xn,xm,xk⟩ j).1.kids)])]) (fun ⟨j,hj⟩=>mem.toNat - j) ⟨0, ?_⟩ (SubP.sub (σ := [(3,some 3),(4,some 4),(5,some 5),(6,some 6),(8,some 8)]) ⟨⟨rfl,rfl,rfl⟩,⟨rr,rr,rr,rr,rr,o0 ?_,trivial⟩,⟨⟨j0 ?_,j0 ?_,j0 ?_,j0 ?_,trivial⟩,⟨j0 ?_,j0 ?_,j0 ?_,j0 ?_,j0 ?_,j0 ?_,j0 ?_,j0 ?_,j0 ?_,j0 ?_,trivial⟩,⟨j0 ?_,j0 ?_,j0 ?_,j0 ?_,j0 ?_,trivial⟩,⟨j0 ?_,j0 ?_,j0 ?_,j0 ?_,trivial,trivial⟩,⟨j0 ?_,j0 ?_,j0 ?_,j0 ?_,j0 ?_,trivial⟩,trivial⟩⟩) (fun ⟨j,hj⟩=>?_);rotate_right;conv=>whnf)|(refine b6 (⟨j + 1, ?_⟩ : {j : Nat // LdI ⟨w,mem,inn,code⟩ mm ⟨xo,xw,xn,xm,xk⟩ j}) ?_ (SubP.sub (σ := [(3,some 3),(4,some 4),(5,some 5),(6,some 6),(8,some 8)]) ⟨⟨rfl,rfl,rfl⟩,⟨rr,rr,rr,rr,rr,o0 ?_,trivial⟩,⟨⟨j0 ?_,j0 ?_,j0 ?_,j0 ?_,trivial⟩,⟨j0 ?_,j0 ?_,j0 ?_,j0 ?_,j0 ?_,j0 ?_,j0 ?_,j0 ?_,j0 ?_,j0 ?_,trivial⟩,⟨j0 ?_,j0 ?_,j0 ?_,j0 ?_,j0 ?_,trivial⟩,⟨j0 ?_,j0 ?_,j0 ?_,j0 ?_,trivial,trivial⟩,⟨j0 ?_,j0 ?_,j0 ?_,j0 ?_,j0 ?_,trivial⟩,trivial⟩⟩))|refine vP (pF ..) ⟨?_⟩|refine vP (qeg (hk := ?_) ..) ⟨?_⟩|fail)
  all_goals repeat clear hK K1
  all_goals (have hM := a7 hp;dsimp only at hM;try simp only [V.Term.eta] at *)
  all_goals first|(with_reducible exact ld_0 hp)|(with_reducible exact ld_ok hj asmR asmR)|((with_reducible show wordP _ _ = true);exact gR hp omG (by show _ < mem;omega))|((with_reducible show (_ : Nat) < _);(try dsimp only);omega)|(have q := hx.h rfl;dsimp only at q;omega)|((with_reducible show (_ : Int) <= _);first|omega|(rw [j3 (n := mem - 1) omG omG];omega))|((with_reducible show (_ : Int) < _);first|omega|(rw [j3 (n := mem - 1) omG omG];omega))|exact frB (congrArg Prod.snd (qdd (p := ⟨w,mem,inn,code⟩) (x := ⟨xo,xw,xn,xm,xk⟩) asmR hj asmR asmR))|exact fr5Mn (congrArg Prod.fst (qdd (p := ⟨w,mem,inn,code⟩) (x := ⟨xo,xw,xn,xm,xk⟩) asmR hj asmR asmR))|exact frB (congrArg Prod.snd (qdc (p := ⟨w,mem,inn,code⟩) (x := ⟨xo,xw,xn,xm,xk⟩) asmR hj asmR))|exact fr5M ((congrArg Prod.fst (qdc (p := ⟨w,mem,inn,code⟩) (x := ⟨xo,xw,xn,xm,xk⟩) asmR hj asmR)).trans (V.Term.eta _).symm)|exact frB rfl|exact fr5M (V.Term.eta _).symm|(refine congrArg Dat.i ?_;rw [j3 omG omG];omega)|exact congrArg (fun t=>Dat.i (V.Term.op t)) (nL hp)|exact congrArg (fun t=>Dat.i (V.Term.w t)) (nL hp)|exact congrArg (fun t=>Dat.i (V.Term.n t)) (nL hp)|exact congrArg (fun t=>Dat.str (V.Term.name t)) (nL hp)|exact congrArg (fun t=>Dat.seq K.terms (V.Term.kids t)) (nL hp)|exact congrArg (fun t=>Dat.i (V.Term.op (Prod.fst t))) (pJ hj)|exact congrArg (fun t=>Dat.i (V.Term.w (Prod.fst t))) (pJ hj)|exact congrArg (fun t=>Dat.i (V.Term.n (Prod.fst t))) (pJ hj)|exact congrArg (fun t=>Dat.str (V.Term.name (Prod.fst t))) (pJ hj)|exact congrArg (fun t=>Dat.seq K.terms (V.Term.kids (Prod.fst t))) (pJ hj)|skip
structure StI (p : V.Prog) (mm : List V.Term) (x t : V.Term) (k : Nat) : Prop where
  kl : k <= mm.length
  ok : jA p mm x t k = true
section
variable {p : V.Prog} {mm : List V.Term} {x t : V.Term} {k : Nat}
theorem dQ : (cB p mm x t k).length = k := by simp [cB]
theorem st_ok (hk : StI p mm x t k) (h0 : (k : Int) < mm.length) (h : (p7 p k x t (mm.getD (k : Int).toNat K.terms.dflt)).2 = true) : StI p mm x t (k + 1) := by
  refine ⟨by omega, ?_⟩
  rw [jA,hk.ok,Bool.true_and]
  exact h
theorem qaw : ∀ {k m : Nat},jA p mm x t k = false -> k <= m -> jA p mm x t m = false
  | k, 0, h, hm => by obtain rfl : k = 0 := by omega
                      exact h
  | k,m + 1,h,hm=>by
    by_cases e : k = m + 1
    . subst e;exact h
    . rw [jA,qaw (m := m) h omG,Bool.false_and]
theorem qax (hx : ¬ x.op = 0) (hl : (mm.length : Int) = p.mem) (h0 : (k : Int) < mm.length) (h : (p7 p k x t (mm.getD (k : Int).toNat K.terms.dflt)).2 = false) : bB p mm x t = ([],false) := by
  have h2 : jA p mm x t (k + 1) = false := by
    rw [jA,show (p7 p (k : Int) x t (kAt mm k)).2 = false from h,Bool.and_false]
  unfold bB
  rw [if_neg hx,qaw h2 omG]
  rfl
theorem qav (hx : ¬ x.op = 0) (hl : (mm.length : Int) = p.mem) (hk : StI p mm x t k) (h0 : ¬ (k : Int) < mm.length) : bB p mm x t = (cB p mm x t k,true) := by
  have := hk.kl
  unfold bB
  rw [if_neg hx,show p.mem.toNat = k by omega,hk.ok]
  rfl
theorem st_set (h0 : (k : Int) < mm.length) {y : V.Term} (h : y = (p7 p k x t (mm.getD (k : Int).toNat K.terms.dflt)).1) :
    (cB p mm x t k ++ List.replicate (mm.length - k) zT).set k y = cB p mm x t (k + 1) ++ List.replicate (mm.length - (k + 1)) zT := by
  have e : mm.length - k = (mm.length - (k + 1)) + 1 := by omega
  rw [List.set_append_right _ _ (by rw [dQ];exact Nat.le_refl _),dQ,Nat.sub_self,e,List.replicate_succ,List.set_cons_zero]
  unfold cB
  rw [List.range_succ,List.map_append,List.append_assoc,h]
  rfl
end
theorem qlt (w mem inn : Int) (code : List V.Ins) (pc : Int) (rg mm : List V.Term) (sk : List Int) (ic : Int) (ot : List V.Term) (cd sp : Int) (cn : List V.Term) (tr : List Int) (xo xw xn : Int) (xm : ByteArray) (xk : List V.Term) (uo uw un : Int) (um : ByteArray) (uk : List V.Term) (hp : i4 ⟨w,mem,inn,code⟩ = true) (hm : (mm.length : Int) = mem) (hx : LdX ⟨w,mem,inn,code⟩ ⟨xo,xw,xn,xm,xk⟩) : CallsV Tryz.prog 194 [.agg [.dat (.i w),.dat (.i mem),.dat (.i inn),.dat (.seq .inss code)],.agg [.dat (.i pc),.dat (.seq .terms rg),.dat (.seq .terms mm),.dat (.seq .ints sk),.dat (.i ic),.dat (.seq .terms ot),.dat (.i cd),.dat (.i sp),.dat (.seq .terms cn),.dat (.seq .ints tr)],.agg [.dat (.i xo),.dat (.i xw),.dat (.i xn),.dat (.str xm),.dat (.seq .terms xk)],.agg [.dat (.i uo),.dat (.i uw),.dat (.i un),.dat (.str um),.dat (.seq .terms uk)]] (.tup [.dat (.seq .terms (bB ⟨w,mem,inn,code⟩ mm ⟨xo,xw,xn,xm,xk⟩ ⟨uo,uw,un,um,uk⟩).1),.dat (.bool (bB ⟨w,mem,inn,code⟩ mm ⟨xo,xw,xn,xm,xk⟩ ⟨uo,uw,un,um,uk⟩).2)]) := by
  refine oV Tryz.func194 ⟨?_⟩
  repeat' (first|((with_reducible refine fun (K1 : KT) hK=>?_);refine r3 ⟨?_⟩)|((with_reducible show K1 _ _);subst hK;conv=>whnf)|(with_reducible exact rfl)|refine y7 ⟨?_⟩|((with_reducible show WEach _ _);refine rA rfl ?_ ?_;conv=>whnf)|refine st0 ⟨?_⟩|((with_reducible refine SplS.mk (fun h=>?_) (fun h=>?_)) <;> first|exact u5|(subst h;conv=>whnf)|(conv=>whnf))|refine f2 ⟨?_⟩ ⟨?_⟩|(refine y5 ({k : Nat // StI ⟨w,mem,inn,code⟩ mm ⟨xo,xw,xn,xm,xk⟩ ⟨uo,uw,un,um,uk⟩ k}) (fun ⟨k,hk⟩=>x5 Tryz.f194.ntmps [(4,.ptr 4 0),(5,.ptr 5 0),(6,.ptr 6 0),(7,.ptr 7 0),(10,.row 24),(26,.dat (.i mm.length)),(27,.dat (.i k))] [(4,.box [.dat (.i w),.dat (.i mem),.dat (.i inn),.dat (.seq .inss code)]),(5,.box [.dat (.i pc),.dat (.seq .terms rg),.dat (.seq .terms mm),.dat (.seq .ints sk),.dat (.i ic),.dat (.seq .terms ot),.dat (.i cd),.dat (.i sp),.dat (.seq .terms cn),.dat (.seq .ints tr)]),(6,.box [.dat (.i xo),.dat (.i xw),.dat (.i xn),.dat (.str xm),.dat (.seq .terms xk)]),(7,.box [.dat (.i uo),.dat (.i uw),.dat (.i un),.dat (.str um),.dat (.seq .terms uk)]),(24,.row 90 .terms (cB ⟨w,mem,inn,code⟩ mm ⟨xo,xw,xn,xm,xk⟩ ⟨uo,uw,un,um,uk⟩ k ++ List.replicate (mm.length - k) zT) false)]) (fun ⟨k,hk⟩=>mm.length - k) ⟨0, ?_⟩ (SubP.sub (σ := [(4,some 4),(5,some 5),(6,some 6),(7,some 7),(24,some 24)]) ⟨⟨rfl,rfl,rfl⟩,⟨rr,rr,rr,rr,rfl,o0 ?_,o0 ?_,trivial⟩,⟨⟨j0 ?_,j0 ?_,j0 ?_,j0 ?_,trivial⟩,⟨j0 ?_,j0 ?_,j0 ?_,j0 ?_,j0 ?_,j0 ?_,j0 ?_,j0 ?_,j0 ?_,j0 ?_,trivial⟩,⟨j0 ?_,j0 ?_,j0 ?_,j0 ?_,j0 ?_,trivial⟩,⟨j0 ?_,j0 ?_,j0 ?_,j0 ?_,j0 ?_,trivial⟩,⟨rr, ?_⟩,trivial⟩⟩) (fun ⟨k,hk⟩=>?_);rotate_right;conv=>whnf)|(refine b6 (⟨k + 1, ?_⟩ : {k : Nat // StI ⟨w,mem,inn,code⟩ mm ⟨xo,xw,xn,xm,xk⟩ ⟨uo,uw,un,um,uk⟩ k}) ?_ (SubP.sub (σ := [(4,some 4),(5,some 5),(6,some 6),(7,some 7),(24,some 24)]) ⟨⟨rfl,rfl,rfl⟩,⟨rr,rr,rr,rr,rfl,o0 ?_,o0 ?_,trivial⟩,⟨⟨j0 ?_,j0 ?_,j0 ?_,j0 ?_,trivial⟩,⟨j0 ?_,j0 ?_,j0 ?_,j0 ?_,j0 ?_,j0 ?_,j0 ?_,j0 ?_,j0 ?_,j0 ?_,trivial⟩,⟨j0 ?_,j0 ?_,j0 ?_,j0 ?_,j0 ?_,trivial⟩,⟨j0 ?_,j0 ?_,j0 ?_,j0 ?_,j0 ?_,trivial⟩,⟨rr, ?_⟩,trivial⟩⟩))|refine vP (pF ..) ⟨?_⟩|refine vP (i_put (h1 := ?_) (hk := ?_) ..) ⟨?_⟩|refine vP (qeg (hk := ?_) ..) ⟨?_⟩|(intro h;conv=>whnf))
  all_goals repeat clear hK K1
  all_goals (have hM := a7 hp;dsimp only at hM;try simp only [V.Term.eta] at *)
  all_goals first|(with_reducible exact st_ok hk asmR asmR)|exact ⟨Nat.zero_le _,rfl⟩|((with_reducible show wordP _ _ = true);exact gR hp omG (by show _ < mem;omega))|((with_reducible show (_ : Nat) < _);(try dsimp only);first|omega|(simp only [List.length_append,List.length_replicate,dQ];omega))|(have q := hx.h rfl;dsimp only at q;omega)|((with_reducible show (_ : Int) <= _);first|omega|(show mem * 64 <= _;omega)|(show mem <= (((2 ^ 63 - 1 : Nat)) : Int);omega))|((with_reducible show (_ : Int) < _);first|omega|(simp only [List.length_append,List.length_replicate,dQ];omega))|exact frB (congrArg Prod.snd (qax (p := ⟨w,mem,inn,code⟩) (x := ⟨xo,xw,xn,xm,xk⟩) asmR hm asmR asmR))|exact frB (congrArg Prod.snd (qav (p := ⟨w,mem,inn,code⟩) (x := ⟨xo,xw,xn,xm,xk⟩) asmR hm hk asmR))|(have e := qav (p := ⟨w,mem,inn,code⟩) (x := ⟨xo,xw,xn,xm,xk⟩) (t := ⟨uo,uw,un,um,uk⟩) asmR hm hk asmR;rw [e,show mm.length - k = 0 by omega,List.replicate_zero,List.append_nil];first|exact rfl|exact frB rfl)|(rw [qax (p := ⟨w,mem,inn,code⟩) (x := ⟨xo,xw,xn,xm,xk⟩) asmR hm asmR asmR];exact rfl)|exact frB rfl|exact rfl|exact congrArg (Sigma.mk K.terms) (st_set asmR rfl).symm|(refine congrArg (Dat.int .i64) ?_;rw [j3 omG omG];rfl)|(refine congrArg Dat.i ?_;simp only [List.length_replicate];omega)|(refine congrArg (Sigma.mk K.terms) ?_;rw [show mm.length - 0 = mem.toNat by omega];rfl)|skip
end Vg
