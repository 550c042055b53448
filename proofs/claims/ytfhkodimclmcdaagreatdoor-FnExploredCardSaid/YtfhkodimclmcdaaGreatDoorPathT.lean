/- Paths: contracts of the reference's load and store. Condition: the path is one under way (PI); its lists lie in memory of their own. -/
import Derived.Test.YtfhkodimclmcdaaGreatDoorPathS
import Derived.Test.YtfhkodimclmcdaaGreatDoorPathI
import Derived.Test.YtfhkodimclmcdaaGreatDoorRg
namespace Vg
open Go Go.Proofs
set_option maxRecDepth 100000
set_option maxHeartbeats 40000000
noncomputable def cD (p : V.Prog) (x : V.Term) (k : Int) : V.Term × Bool := s1 14 1 0 [cT p.w k,x]
noncomputable def m7 (p : V.Prog) (mm : List V.Term) (x : V.Term) : Nat -> V.Term × Bool
  | 0=>(kAt mm (p.mem.toNat - 1),true)
  | j + 1=>if (m7 p mm x j).2 = true then (if (cD p x (p.mem - 2 - j)).2 = true then s1 17 p.w 0 [(cD p x (p.mem - 2 - j)).1,mm.getD (p.mem - 2 - j).toNat K.terms.dflt,(m7 p mm x j).1] else ((m7 p mm x j).1,false)) else m7 p mm x j
noncomputable def mF (p : V.Prog) (mm : List V.Term) (x : V.Term) : V.Term × Bool :=
  if x.op = 0 then (mm.getD x.n.toNat K.terms.dflt,true) else m7 p mm x (p.mem.toNat - 1)
section
variable {p : V.Prog} {mm : List V.Term} {x : V.Term} {j : Nat}
theorem lr_a (h : (m7 p mm x j).2 = true) (h2 : (s1 14 1 0 [cT p.w (p.mem - 2 - j),x]).2 = false) : m7 p mm x (j + 1) = ((m7 p mm x j).1,false) := by
  rw [m7,if_pos h,if_neg (by unfold cD;rw [h2];decide)]
theorem bO (h : (m7 p mm x j).2 = true) (h2 : (s1 14 1 0 [cT p.w (p.mem - 2 - j),x]).2 = false) : (m7 p mm x (j + 1)).1 = (m7 p mm x j).1 := by rw [lr_a h h2]
theorem kL (h : (m7 p mm x j).2 = true) (h2 : (s1 14 1 0 [cT p.w (p.mem - 2 - j),x]).2 = true) : m7 p mm x (j + 1) = s1 17 p.w 0 [(s1 14 1 0 [cT p.w (p.mem - 2 - j),x]).1,mm.getD (p.mem - 2 - j).toNat K.terms.dflt,(m7 p mm x j).1] := by
  rw [m7,if_pos h,if_pos (show (cD p x (p.mem - 2 - j)).2 = true from h2)];rfl
theorem qc2 (h : (m7 p mm x j).2 = false) : ∀ m,j <= m -> m7 p mm x m = m7 p mm x j
  | 0, hm => by obtain rfl : j = 0 := by omega
                rfl
  | m + 1,hm=>by
    by_cases e : j = m + 1
    . subst e;rfl
    . rw [m7,qc2 h m omG,if_neg (by rw [h];decide)]
theorem qc3 (hx : ¬ x.op = 0) (hj : (j : Int) <= p.mem - 1) (h : ¬ p.mem - 2 - j >= 0 \/ (m7 p mm x j).2 = false) : mF p mm x = m7 p mm x j := by
  unfold mF
  rw [if_neg hx]
  by_cases e : j = p.mem.toNat - 1
  . rw [e]
  . exact qc2 (h.resolve_left omG) _ omG
theorem lr_ok (hm : okTs mm = true) (hl : (mm.length : Int) = p.mem) (h1 : 1 <= p.mem) : ∀ j,(m7 p mm x j).2 = true -> okT (m7 p mm x j).1 = true
  | 0,_=>gF hm omG
  | j + 1,h=>by
    rw [m7] at h ⊢
    by_cases c : (m7 p mm x j).2 = true
    . rw [if_pos c] at h ⊢
      by_cases c2 : (cD p x (p.mem - 2 - j)).2 = true
      . rw [if_pos c2] at h ⊢;exact (eB h).1
      . rw [if_neg c2] at h;cases h
    . rw [if_neg c] at h;exact absurd h c
theorem aO (h : i4 p = true) : (m7 p mm x 0).1 = mm.getD (IntKind.i64.wrap (p.mem - 1)).toNat K.terms.dflt := nL (x := x) h
end
theorem qix (w mem inn : Int) (code : List V.Ins) (pc : Int) (rg mm : List V.Term) (sk : List Int) (ic : Int) (ot : List V.Term) (cd sp : Int) (cn : List V.Term) (tr : List Int) (xo xw xn : Int) (xm : ByteArray) (xk : List V.Term) (bd : Bool) (hb : bd = false) (hp : i4 ⟨w,mem,inn,code⟩ = true) (hl : (mm.length : Int) = mem) (hm : okTs mm = true) (hx : LdX ⟨w,mem,inn,code⟩ ⟨xo,xw,xn,xm,xk⟩) (ho : okT ⟨xo,xw,xn,xm,xk⟩ = true) : CallsG Tryz.prog 99 [.ptr 0 0,.agg [.dat (.i w),.dat (.i mem),.dat (.i inn),.dat (.seq .inss code)],.agg [.dat (.i pc),.row 1,.row 2,.row 3,.dat (.i ic),.row 4,.dat (.i cd),.dat (.i sp),.row 5,.row 6],.agg [.dat (.i xo),.dat (.i xw),.dat (.i xn),.dat (.str xm),.dat (.seq .terms xk)]] [.box [.dat (.bool bd)],.row 90 .terms rg false,.row 90 .terms mm false,.row 3 .ints sk false,.row 90 .terms ot false,.row 90 .terms cn false,.row 3 .ints tr false] 7 (fun res B=>res = i5 (mF ⟨w,mem,inn,code⟩ mm ⟨xo,xw,xn,xm,xk⟩).1 /\ B = [.box [.dat (.bool (!(mF ⟨w,mem,inn,code⟩ mm ⟨xo,xw,xn,xm,xk⟩).2))],.row 90 .terms rg false,.row 90 .terms mm false,.row 3 .ints sk false,.row 90 .terms ot false,.row 90 .terms cn false,.row 3 .ints tr false]) := by
  refine oG Tryz.func99 ⟨?_⟩
  repeat' (first|((with_reducible refine fun (K1 : KT) hK=>?_);refine r3 ⟨?_⟩)|((with_reducible show K1 _ _);subst hK;conv=>whnf)|(with_reducible exact rfl)|refine y7 ⟨?_⟩|((with_reducible show WEach _ _);refine rA rfl ?_ ?_;conv=>whnf)|refine st0 ⟨?_⟩|((with_reducible refine SplS.mk (fun h=>?_) (fun h=>?_)) <;> first|exact u5|((fail_if_success (have _x : @Eq Bool _ _ := h));subst h;conv=>whnf)|(conv=>whnf))|refine f2 ⟨?_⟩ ⟨?_⟩|(refine y5 ({j : Nat // (j : Int) <= mem - 1}) (fun ⟨j,hj⟩=>x5 Tryz.f99.ntmps [(0,.ptr 900000 0),(5,.ptr 5 0),(6,.ptr 6 0),(7,.ptr 7 0),(8,.ptr 8 0),(9,.ptr 9 0),(10,.dat (.i (mem - 2 - j)))] [(900000,.box [.dat (.bool (!(m7 ⟨w,mem,inn,code⟩ mm ⟨xo,xw,xn,xm,xk⟩ j).2))]),(900001,.row 90 .terms rg false),(900002,.row 90 .terms mm false),(900003,.row 3 .ints sk false),(900004,.row 90 .terms ot false),(900005,.row 90 .terms cn false),(900006,.row 3 .ints tr false),(5,.box [.dat (.i w),.dat (.i mem),.dat (.i inn),.dat (.seq .inss code)]),(6,.box [.dat (.i pc),.row 900001,.row 900002,.row 900003,.dat (.i ic),.row 900004,.dat (.i cd),.dat (.i sp),.row 900005,.row 900006]),(7,.box [.dat (.i xo),.dat (.i xw),.dat (.i xn),.dat (.str xm),.dat (.seq .terms xk)]),(8,.box [.dat (.i 0),.dat (.i 0),.dat (.i 0),.dat (.str ByteArray.empty),.nils]),(9,.box [.dat (.i (m7 ⟨w,mem,inn,code⟩ mm ⟨xo,xw,xn,xm,xk⟩ j).1.op),.dat (.i (m7 ⟨w,mem,inn,code⟩ mm ⟨xo,xw,xn,xm,xk⟩ j).1.w),.dat (.i (m7 ⟨w,mem,inn,code⟩ mm ⟨xo,xw,xn,xm,xk⟩ j).1.n),.dat (.str (m7 ⟨w,mem,inn,code⟩ mm ⟨xo,xw,xn,xm,xk⟩ j).1.name),.dat (.seq .terms (m7 ⟨w,mem,inn,code⟩ mm ⟨xo,xw,xn,xm,xk⟩ j).1.kids)])]) (fun ⟨j,hj⟩=>mem.toNat - 1 - j) ⟨0, ?_⟩ (SubP.sub (σ := [(900000,some 900000),(900001,some 900001),(900002,some 900002),(900003,some 900003),(900004,some 900004),(900005,some 900005),(900006,some 900006),(5,some 5),(6,some 6),(7,some 7),(8,some 8),(9,some 9)]) ⟨⟨rfl,rfl,rfl⟩,⟨rr,rr,rr,rr,rr,rr,o0 ?_,trivial⟩,⟨⟨j0 ?_,trivial⟩,⟨rr, ?_⟩,⟨rr, ?_⟩,⟨rr, ?_⟩,⟨rr, ?_⟩,⟨rr, ?_⟩,⟨rr, ?_⟩,⟨j0 ?_,j0 ?_,j0 ?_,j0 ?_,trivial⟩,⟨j0 ?_,rfl,rfl,rfl,j0 ?_,rfl,j0 ?_,j0 ?_,rfl,rfl,trivial⟩,⟨j0 ?_,j0 ?_,j0 ?_,j0 ?_,j0 ?_,trivial⟩,⟨j0 ?_,j0 ?_,j0 ?_,j0 ?_,trivial,trivial⟩,⟨j0 ?_,j0 ?_,j0 ?_,j0 ?_,j0 ?_,trivial⟩,trivial⟩⟩) (fun ⟨j,hj⟩=>?_);rotate_right;conv=>whnf)|(refine b6 (⟨j + 1, ?_⟩ : {j : Nat // (j : Int) <= mem - 1}) ?_ (SubP.sub (σ := [(900000,some 900000),(900001,some 900001),(900002,some 900002),(900003,some 900003),(900004,some 900004),(900005,some 900005),(900006,some 900006),(5,some 5),(6,some 6),(7,some 7),(8,some 8),(9,some 9)]) ⟨⟨rfl,rfl,rfl⟩,⟨rr,rr,rr,rr,rr,rr,o0 ?_,trivial⟩,⟨⟨j0 ?_,trivial⟩,⟨rr, ?_⟩,⟨rr, ?_⟩,⟨rr, ?_⟩,⟨rr, ?_⟩,⟨rr, ?_⟩,⟨rr, ?_⟩,⟨j0 ?_,j0 ?_,j0 ?_,j0 ?_,trivial⟩,⟨j0 ?_,rfl,rfl,rfl,j0 ?_,rfl,j0 ?_,j0 ?_,rfl,rfl,trivial⟩,⟨j0 ?_,j0 ?_,j0 ?_,j0 ?_,j0 ?_,trivial⟩,⟨j0 ?_,j0 ?_,j0 ?_,j0 ?_,trivial,trivial⟩,⟨j0 ?_,j0 ?_,j0 ?_,j0 ?_,j0 ?_,trivial⟩,trivial⟩⟩))|refine vP (cG ..) ⟨?_⟩|refine gS (jN (hb := ?_) (hn := ?_) ..) ⟨?_⟩|fail)
  all_goals repeat clear hK K1
  all_goals (have hM := a7 hp;dsimp only at hM;try simp only [V.Term.eta,Bool.not_eq_false',Bool.not_eq_true'] at *)
  all_goals first|(rw [hb];exact rfl)|((with_reducible show (_ : Nat) < _);first|((try dsimp only);omega)|(have q := hx.h rfl;dsimp only at q;omega)|(rw [j3 (n := mem - 1) omG omG];omega))|((with_reducible show (_ : Int) <= _);first|omega|(rw [j3 (n := mem - 1) omG omG];omega)|(have q := hx.h rfl;dsimp only at q;omega))|((with_reducible show (_ : Int) < _);first|omega|(rw [j3 (n := mem - 1) omG omG];omega)|(have q := hx.h rfl;dsimp only at q;omega))|((with_reducible show okTs _ = true);first|exact xH (qB (gR hp omG (by show _ < mem;omega))) ho|exact qb9 (eB asmR).1 (xQ hm omG omG) (lr_ok (p := ⟨w,mem,inn,code⟩) hm hl hM.1 j asmR))|exact congrArg (fun t=>Dat.i (V.Term.op t)) (aO hp)|exact congrArg (fun t=>Dat.i (V.Term.w t)) (aO hp)|exact congrArg (fun t=>Dat.i (V.Term.n t)) (aO hp)|exact congrArg (fun t=>Dat.str (V.Term.name t)) (aO hp)|exact congrArg (fun t=>Dat.seq K.terms (V.Term.kids t)) (aO hp)|(refine congrArg (Dat.int .i64) ?_;rw [j3 omG omG];omega)|exact congrArg (fun t=>Dat.bool (!(Prod.snd t))) (kL (p := ⟨w,mem,inn,code⟩) asmR asmR)|exact (congrArg (fun t=>Dat.bool (!(Prod.snd t))) (lr_a (p := ⟨w,mem,inn,code⟩) asmR asmR)).trans (congrArg (fun b=>Dat.bool (!b)) (show _ = false from by with_reducible assumption)).symm|exact congrArg (fun t=>Dat.i (V.Term.op (Prod.fst t))) (kL (p := ⟨w,mem,inn,code⟩) asmR asmR)|exact congrArg (fun t=>Dat.i (V.Term.w (Prod.fst t))) (kL (p := ⟨w,mem,inn,code⟩) asmR asmR)|exact congrArg (fun t=>Dat.i (V.Term.n (Prod.fst t))) (kL (p := ⟨w,mem,inn,code⟩) asmR asmR)|exact congrArg (fun t=>Dat.str (V.Term.name (Prod.fst t))) (kL (p := ⟨w,mem,inn,code⟩) asmR asmR)|exact congrArg (fun t=>Dat.seq K.terms (V.Term.kids (Prod.fst t))) (kL (p := ⟨w,mem,inn,code⟩) asmR asmR)|exact congrArg (fun t=>Dat.i (V.Term.op t)) (bO (p := ⟨w,mem,inn,code⟩) asmR asmR)|exact congrArg (fun t=>Dat.i (V.Term.w t)) (bO (p := ⟨w,mem,inn,code⟩) asmR asmR)|exact congrArg (fun t=>Dat.i (V.Term.n t)) (bO (p := ⟨w,mem,inn,code⟩) asmR asmR)|exact congrArg (fun t=>Dat.str (V.Term.name t)) (bO (p := ⟨w,mem,inn,code⟩) asmR asmR)|exact congrArg (fun t=>Dat.seq K.terms (V.Term.kids t)) (bO (p := ⟨w,mem,inn,code⟩) asmR asmR)|(with_reducible assumption)|(rw [qc3 (p := ⟨w,mem,inn,code⟩) asmR hj (.inl asmR)] <;> exact rfl)|(rw [qc3 (p := ⟨w,mem,inn,code⟩) asmR hj (.inr asmR)] <;> exact rfl)|exact rfl|skip
noncomputable def x7 (p : V.Prog) (mm : List V.Term) (x t : V.Term) : Nat -> List V.Term × Bool
  | 0=>(mm,true)
  | k + 1=>if (x7 p mm x t k).2 = true then (if (cD p x k).2 = true then ((x7 p mm x t k).1.set (k : Int).toNat (s1 17 p.w 0 [(cD p x k).1,t,mm.getD (k : Int).toNat K.terms.dflt]).1,(s1 17 p.w 0 [(cD p x k).1,t,mm.getD (k : Int).toNat K.terms.dflt]).2) else ((x7 p mm x t k).1,false)) else x7 p mm x t k
noncomputable def cF (p : V.Prog) (mm : List V.Term) (x t : V.Term) : List V.Term × Bool :=
  if x.op = 0 then (mm.set x.n.toNat t,true) else x7 p mm x t p.mem.toNat
section
variable {p : V.Prog} {mm : List V.Term} {x t : V.Term} {k : Nat}
theorem sr_a (h : (x7 p mm x t k).2 = true) (h2 : (s1 14 1 0 [cT p.w k,x]).2 = false) : x7 p mm x t (k + 1) = ((x7 p mm x t k).1,false) := by
  rw [x7,if_pos h,if_neg (by unfold cD;rw [h2];decide)]
theorem sr_b (h : (x7 p mm x t k).2 = true) (h2 : (s1 14 1 0 [cT p.w k,x]).2 = true) : x7 p mm x t (k + 1) = ((x7 p mm x t k).1.set (k : Int).toNat (s1 17 p.w 0 [(s1 14 1 0 [cT p.w k,x]).1,t,mm.getD (k : Int).toNat K.terms.dflt]).1,(s1 17 p.w 0 [(s1 14 1 0 [cT p.w k,x]).1,t,mm.getD (k : Int).toNat K.terms.dflt]).2) := by
  rw [x7,if_pos h,if_pos (show (cD p x k).2 = true from h2)];rfl
theorem sr_a1 (h : (x7 p mm x t k).2 = true) (h2 : (s1 14 1 0 [cT p.w k,x]).2 = false) : (x7 p mm x t (k + 1)).1 = (x7 p mm x t k).1 := by rw [sr_a h h2]
theorem sr_b1 (h : (x7 p mm x t k).2 = true) (h2 : (s1 14 1 0 [cT p.w k,x]).2 = true) : (x7 p mm x t (k + 1)).1 = (x7 p mm x t k).1.set (k : Int).toNat (s1 17 p.w 0 [(s1 14 1 0 [cT p.w k,x]).1,t,mm.getD (k : Int).toNat K.terms.dflt]).1 := by rw [sr_b h h2]
theorem qay (h : (x7 p mm x t k).2 = false) : ∀ m,k <= m -> x7 p mm x t m = x7 p mm x t k
  | 0, hm => by obtain rfl : k = 0 := by omega
                rfl
  | m + 1,hm=>by
    by_cases e : k = m + 1
    . subst e;rfl
    . rw [x7,qay h m omG,if_neg (by rw [h];decide)]
theorem qaz (hx : ¬ x.op = 0) (hk : (k : Int) <= p.mem) (h : ¬ (k : Int) < p.mem \/ (x7 p mm x t k).2 = false) : cF p mm x t = x7 p mm x t k := by
  unfold cF
  rw [if_neg hx]
  by_cases e : k = p.mem.toNat
  . rw [e]
  . exact qay (h.resolve_left omG) _ omG
theorem eQ : ∀ k,(x7 p mm x t k).1.length = mm.length
  | 0=>rfl
  | k + 1=>by
    rw [x7]
    split
    . split
      . rw [List.length_set];exact eQ k
      . exact eQ k
    . exact eQ k
end
theorem qiu (w mem inn : Int) (code : List V.Ins) (pc : Int) (rg mm : List V.Term) (sk : List Int) (ic : Int) (ot : List V.Term) (cd sp : Int) (cn : List V.Term) (tr : List Int) (xo xw xn : Int) (xm : ByteArray) (xk : List V.Term) (uo uw un : Int) (um : ByteArray) (uk : List V.Term) (bd : Bool) (hb : bd = false) (hp : i4 ⟨w,mem,inn,code⟩ = true) (hl : (mm.length : Int) = mem) (hm : okTs mm = true) (hx : LdX ⟨w,mem,inn,code⟩ ⟨xo,xw,xn,xm,xk⟩) (ho : okT ⟨xo,xw,xn,xm,xk⟩ = true) (hu : okT ⟨uo,uw,un,um,uk⟩ = true) : CallsG Tryz.prog 100 [.ptr 0 0,.agg [.dat (.i w),.dat (.i mem),.dat (.i inn),.dat (.seq .inss code)],.agg [.dat (.i pc),.row 1,.row 2,.row 3,.dat (.i ic),.row 4,.dat (.i cd),.dat (.i sp),.row 5,.row 6],.agg [.dat (.i xo),.dat (.i xw),.dat (.i xn),.dat (.str xm),.dat (.seq .terms xk)],.agg [.dat (.i uo),.dat (.i uw),.dat (.i un),.dat (.str um),.dat (.seq .terms uk)]] [.box [.dat (.bool bd)],.row 90 .terms rg false,.row 90 .terms mm false,.row 3 .ints sk false,.row 90 .terms ot false,.row 90 .terms cn false,.row 3 .ints tr false] 7 (fun res B=>res = .row 7 /\ B = [.box [.dat (.bool (!(cF ⟨w,mem,inn,code⟩ mm ⟨xo,xw,xn,xm,xk⟩ ⟨uo,uw,un,um,uk⟩).2))],.row 90 .terms rg false,.row 90 .terms mm false,.row 3 .ints sk false,.row 90 .terms ot false,.row 90 .terms cn false,.row 3 .ints tr false,.row 90 .terms (cF ⟨w,mem,inn,code⟩ mm ⟨xo,xw,xn,xm,xk⟩ ⟨uo,uw,un,um,uk⟩).1 false]) := by
  refine oG Tryz.func100 ⟨?_⟩
  repeat' (first|((with_reducible refine fun (K1 : KT) hK=>?_);refine r3 ⟨?_⟩)|((with_reducible show K1 _ _);subst hK;conv=>whnf)|(with_reducible exact rfl)|refine y7 ⟨?_⟩|((with_reducible show WEach _ _);refine rA rfl ?_ ?_;conv=>whnf)|refine st0 ⟨?_⟩|((with_reducible refine SplS.mk (fun h=>?_) (fun h=>?_)) <;> first|exact u5|((fail_if_success (have _x : @Eq Bool _ _ := h));subst h;conv=>whnf)|(conv=>whnf))|refine f2 ⟨?_⟩ ⟨?_⟩|(refine y5 ({k : Nat // (k : Int) <= mem}) (fun ⟨k,hk⟩=>x5 Tryz.f100.ntmps [(0,.ptr 900000 0),(6,.ptr 6 0),(7,.ptr 7 0),(8,.ptr 8 0),(9,.ptr 9 0),(11,.row 17),(12,.dat (.i k))] [(900000,.box [.dat (.bool (!(x7 ⟨w,mem,inn,code⟩ mm ⟨xo,xw,xn,xm,xk⟩ ⟨uo,uw,un,um,uk⟩ k).2))]),(900001,.row 90 .terms rg false),(900002,.row 90 .terms mm false),(900003,.row 3 .ints sk false),(900004,.row 90 .terms ot false),(900005,.row 90 .terms cn false),(900006,.row 3 .ints tr false),(6,.box [.dat (.i w),.dat (.i mem),.dat (.i inn),.dat (.seq .inss code)]),(7,.box [.dat (.i pc),.row 900001,.row 900002,.row 900003,.dat (.i ic),.row 900004,.dat (.i cd),.dat (.i sp),.row 900005,.row 900006]),(8,.box [.dat (.i xo),.dat (.i xw),.dat (.i xn),.dat (.str xm),.dat (.seq .terms xk)]),(9,.box [.dat (.i uo),.dat (.i uw),.dat (.i un),.dat (.str um),.dat (.seq .terms uk)]),(17,.row 90 .terms (x7 ⟨w,mem,inn,code⟩ mm ⟨xo,xw,xn,xm,xk⟩ ⟨uo,uw,un,um,uk⟩ k).1 false)]) (fun ⟨k,hk⟩=>mem.toNat - k) ⟨0, ?_⟩ (SubP.sub (σ := [(900000,some 900000),(900001,some 900001),(900002,some 900002),(900003,some 900003),(900004,some 900004),(900005,some 900005),(900006,some 900006),(6,some 6),(7,some 7),(8,some 8),(9,some 9),(17,some 17)]) ⟨⟨rfl,rfl,rfl⟩,⟨rr,rr,rr,rr,rr,rfl,o0 ?_,trivial⟩,⟨⟨j0 ?_,trivial⟩,⟨rr, ?_⟩,⟨rr, ?_⟩,⟨rr, ?_⟩,⟨rr, ?_⟩,⟨rr, ?_⟩,⟨rr, ?_⟩,⟨j0 ?_,j0 ?_,j0 ?_,j0 ?_,trivial⟩,⟨j0 ?_,rfl,rfl,rfl,j0 ?_,rfl,j0 ?_,j0 ?_,rfl,rfl,trivial⟩,⟨j0 ?_,j0 ?_,j0 ?_,j0 ?_,j0 ?_,trivial⟩,⟨j0 ?_,j0 ?_,j0 ?_,j0 ?_,j0 ?_,trivial⟩,⟨rr, ?_⟩,trivial⟩⟩) (fun ⟨k,hk⟩=>?_);rotate_right;conv=>whnf)|(refine b6 (⟨k + 1, ?_⟩ : {k : Nat // (k : Int) <= mem}) ?_ (SubP.sub (σ := [(900000,some 900000),(900001,some 900001),(900002,some 900002),(900003,some 900003),(900004,some 900004),(900005,some 900005),(900006,some 900006),(6,some 6),(7,some 7),(8,some 8),(9,some 9),(17,some 17)]) ⟨⟨rfl,rfl,rfl⟩,⟨rr,rr,rr,rr,rr,rfl,o0 ?_,trivial⟩,⟨⟨j0 ?_,trivial⟩,⟨rr, ?_⟩,⟨rr, ?_⟩,⟨rr, ?_⟩,⟨rr, ?_⟩,⟨rr, ?_⟩,⟨rr, ?_⟩,⟨j0 ?_,j0 ?_,j0 ?_,j0 ?_,trivial⟩,⟨j0 ?_,rfl,rfl,rfl,j0 ?_,rfl,j0 ?_,j0 ?_,rfl,rfl,trivial⟩,⟨j0 ?_,j0 ?_,j0 ?_,j0 ?_,j0 ?_,trivial⟩,⟨j0 ?_,j0 ?_,j0 ?_,j0 ?_,j0 ?_,trivial⟩,⟨rr, ?_⟩,trivial⟩⟩))|refine vP (cG ..) ⟨?_⟩|refine gS (jN (hb := ?_) (hn := ?_) ..) ⟨?_⟩|fail)
  all_goals repeat clear hK K1
  all_goals (have hM := a7 hp;dsimp only at hM;have sl := fun y u=>eQ (p := ⟨w,mem,inn,code⟩) (mm := mm) (x := y) (t := u);try simp only [V.Term.eta,Bool.not_eq_false',Bool.not_eq_true'] at *)
  all_goals first|(rw [hb];exact rfl)|((with_reducible show (_ : Nat) < _);first|((try dsimp only);omega)|(have q := hx.h rfl;dsimp only at q;omega)|(simp only [sl];omega)|(have q := hx.h rfl;dsimp only at q;simp;omega))|((with_reducible show (_ : Int) <= _);first|omega|(have q := hx.h rfl;dsimp only at q;omega))|((with_reducible show (_ : Int) < _);first|omega|(have q := hx.h rfl;dsimp only at q;omega)|(simp only [sl];omega)|(have q := hx.h rfl;dsimp only at q;simp;omega))|((with_reducible show (_ : Nat) <= _);first|omega|(simp;omega)|(have hm : maxLen = 9223372036854775807 := rfl;simp;omega)|(show (_ + _) * 64 <= _;simp;omega))|((with_reducible show okTs _ = true);first|exact xH (qB (gR hp omG (by show _ < mem;omega))) ho|exact qb9 (eB asmR).1 hu (xQ hm omG omG))|(refine congrArg (Dat.int .i64) ?_;rw [j3 omG omG];omega)|exact congrArg (fun t=>Dat.bool (!(Prod.snd t))) (sr_b (p := ⟨w,mem,inn,code⟩) asmR asmR)|exact (congrArg (fun t=>Dat.bool (!(Prod.snd t))) (sr_a (p := ⟨w,mem,inn,code⟩) asmR asmR)).trans (congrArg (fun b=>Dat.bool (!b)) (show _ = false from by with_reducible assumption)).symm|exact congrArg (Sigma.mk K.terms) (sr_b1 (p := ⟨w,mem,inn,code⟩) asmR asmR)|exact congrArg (Sigma.mk K.terms) (sr_a1 (p := ⟨w,mem,inn,code⟩) asmR asmR)|(with_reducible assumption)|(rw [qaz (p := ⟨w,mem,inn,code⟩) asmR hk (.inl asmR)] <;> exact rfl)|(rw [qaz (p := ⟨w,mem,inn,code⟩) asmR hk (.inr asmR)] <;> exact rfl)|exact rfl|skip
noncomputable def p5 (p : V.Prog) (s : V.Path) (i : V.Ins) : V.Path × Bool :=
  if i.op = 14 then ({ s with code := 1 },true)
  else if g5 p s i ≠ 0 then ({ s with code := g5 p s i },true)
  else if i.op = 7 then ({ s with regs := s.regs.set i.a.toNat (mF p s.mem (rgT s i.b)).1,pc := s.pc + 1 },(mF p s.mem (rgT s i.b)).2)
  else if i.op = 8 then ({ s with mem := (cF p s.mem (rgT s i.a) (rgT s i.b)).1,pc := s.pc + 1 },(cF p s.mem (rgT s i.a) (rgT s i.b)).2)
  else i6 p s i
section
variable {p : V.Prog} {s : V.Path} {a b c : Int} {i : V.Ins}
theorem no_14 : p5 p s ⟨14,a,b,c⟩ = ({ s with code := 1 },true) := if_pos rfl
theorem bL {k : Int} (h14 : ¬ i.op = 14) (h : g5 p s i = k) (hk : ¬ k = 0) : p5 p s i = ({ s with code := k },true) := by
  unfold p5
  rw [if_neg h14,h,if_pos hk]
theorem no_5 (h : p.inn <= s.inn) : p5 p s ⟨5,a,b,c⟩ = ({ s with code := 3 },true) := bL (show ¬ (5 : Int) = 14 by decide) (if_pos ⟨rfl,h⟩) (by decide)
theorem no_6 (h : 6 <= (s.out.length : Int)) : p5 p s ⟨6,a,b,c⟩ = ({ s with code := 4 },true) := bL (show ¬ (6 : Int) = 14 by decide) (by unfold g5;rw [if_neg (fun q=>absurd (show (6 : Int) = 5 from q.1) (by decide)),if_pos ⟨rfl,h⟩]) (by decide)
theorem no_11 (h : 3 <= (s.stack.length : Int)) : p5 p s ⟨11,a,b,c⟩ = ({ s with code := 7 },true) := bL (show ¬ (11 : Int) = 14 by decide) (by unfold g5;rw [if_neg (fun q=>absurd (show (11 : Int) = 5 from q.1) (by decide)),if_neg (fun q=>absurd (show (11 : Int) = 6 from q.1) (by decide)),if_pos ⟨rfl,h⟩]) (by decide)
theorem no_12 (h : (s.stack.length : Int) = 0) : p5 p s ⟨12,a,b,c⟩ = ({ s with code := 7 },true) := bL (show ¬ (12 : Int) = 14 by decide) (by unfold g5;rw [if_neg (fun q=>absurd (show (12 : Int) = 5 from q.1) (by decide)),if_neg (fun q=>absurd (show (12 : Int) = 6 from q.1) (by decide)),if_neg (fun q=>absurd (show (12 : Int) = 11 from q.1) (by decide)),if_pos ⟨rfl,h⟩]) (by decide)
theorem no_7 : p5 p s ⟨7,a,b,c⟩ = ({ s with regs := s.regs.set a.toNat (mF p s.mem (rgT s b)).1,pc := s.pc + 1 },(mF p s.mem (rgT s b)).2) := by
  have e : g5 p s ⟨7,a,b,c⟩ = 0 := by
    unfold g5
    rw [if_neg (fun q=>absurd (show (7 : Int) = 5 from q.1) (by decide)),if_neg (fun q=>absurd (show (7 : Int) = 6 from q.1) (by decide)),if_neg (fun q=>absurd (show (7 : Int) = 11 from q.1) (by decide)),if_neg (fun q=>absurd (show (7 : Int) = 12 from q.1) (by decide))]
  unfold p5
  rw [if_neg (show ¬ (7 : Int) = 14 by decide),if_neg (by rw [e];decide),if_pos rfl]
theorem no_8 : p5 p s ⟨8,a,b,c⟩ = ({ s with mem := (cF p s.mem (rgT s a) (rgT s b)).1,pc := s.pc + 1 },(cF p s.mem (rgT s a) (rgT s b)).2) := by
  have e : g5 p s ⟨8,a,b,c⟩ = 0 := by
    unfold g5
    rw [if_neg (fun q=>absurd (show (8 : Int) = 5 from q.1) (by decide)),if_neg (fun q=>absurd (show (8 : Int) = 6 from q.1) (by decide)),if_neg (fun q=>absurd (show (8 : Int) = 11 from q.1) (by decide)),if_neg (fun q=>absurd (show (8 : Int) = 12 from q.1) (by decide))]
  unfold p5
  rw [if_neg (show ¬ (8 : Int) = 14 by decide),if_neg (by rw [e];decide),if_neg (show ¬ (8 : Int) = 7 by decide),if_pos rfl]
theorem st_0 (h5 : i.op = 5 -> s.inn < p.inn) (h6 : i.op = 6 -> (s.out.length : Int) < 6) (h11 : i.op = 11 -> (s.stack.length : Int) < 3) (h12 : i.op = 12 -> ¬ (s.stack.length : Int) = 0) : g5 p s i = 0 := by
  unfold g5
  rw [if_neg (fun q=>by have := h5 q.1;omega),if_neg (fun q=>by have := h6 q.1;omega),if_neg (fun q=>by have := h11 q.1;omega),if_neg (fun q=>h12 q.1 q.2)]
theorem cL (h14 : ¬ i.op = 14) (hk : g5 p s i = 0) (h7 : ¬ i.op = 7) (h8 : ¬ i.op = 8) : p5 p s i = i6 p s i := by
  unfold p5
  rw [if_neg h14,if_neg (by rw [hk];decide),if_neg h7,if_neg h8]
end
theorem qi0 (pc : Int) (rg mm : List V.Term) (sk : List Int) (ic : Int) (ot : List V.Term) (cd sp : Int) (cn : List V.Term) (tr : List Int) (xo xw xn : Int) (xm : ByteArray) (xk : List V.Term) (n : Int) (h : CpOk ⟨pc,rg,mm,sk,ic,ot,cd,sp,cn,tr⟩) : CallsF Tryz.prog 68 [.agg [.dat (.i pc),.dat (.seq .terms rg),.dat (.seq .terms mm),.dat (.seq .ints sk),.dat (.i ic),.dat (.seq .terms ot),.dat (.i cd),.dat (.i sp),.dat (.seq .terms cn),.dat (.seq .ints tr)],.agg [.dat (.i xo),.dat (.i xw),.dat (.i xn),.dat (.str xm),.dat (.seq .terms xk)],.dat (.i n)] false (fun res B=>res = .agg [.dat (.i pc),.row 0,.row 1,.row 2,.dat (.i ic),.row 3,.dat (.i cd),.dat (.i sp),.row 4,.row 5] /\ B = [.row 90 .terms rg false,.row 90 .terms mm false,.row 3 .ints sk false,.row 90 .terms ot false,.row 90 .terms (cn ++ [⟨xo,xw,xn,xm,xk⟩]) false,.row 3 .ints (tr ++ [n]) false]) := by
  refine oF Tryz.func68 ⟨?_⟩
  repeat' (first|((with_reducible refine fun (K1 : KT) hK=>?_);refine r3 ⟨?_⟩)|((with_reducible show K1 _ _);subst hK;conv=>whnf)|refine st0 ⟨?_⟩|refine f2 ⟨?_⟩ ⟨?_⟩|refine eS (lQ (h := ?_) ..) ⟨?_⟩|fail)
  all_goals repeat clear hK K1
  all_goals first|exact h|exact rfl|(have q := h.cl;have q2 := h.tl;dsimp only at q q2;have hm : maxLen = 9223372036854775807 := rfl;first|omega|(simp;omega)|(show (_ + _) * 8 <= _;simp;omega)|(show (_ + _) * 64 <= _;simp;omega))|skip
theorem qjp (op w : Int) (ho : 3 <= op /\ op <= 16) (hw : inP w 1 16 = true) : CallsV Tryz.prog 97 [.dat (.i op),.dat (.i w)] (.dat (.i (e8 op w))) := by
  refine oV Tryz.func97 ⟨?_⟩
  repeat' (first|((with_reducible refine fun (K1 : KT) hK=>?_);refine r3 ⟨?_⟩)|((with_reducible show K1 _ _);subst hK;conv=>whnf)|refine st0 ⟨?_⟩|((with_reducible refine SplS.mk (fun h=>?_) (fun h=>?_)) <;> first|exact u5|(subst h;conv=>whnf)|(conv=>whnf))|refine vP (zA ..) ⟨?_⟩|fail)
  all_goals repeat clear hK K1
  all_goals first|(refine qG (Eq.symm ?_);unfold e8;(first|rw [if_pos omG]|rw [if_neg omG]);done)|(exact Bool.noConfusion (Eq.trans (Eq.symm (k6.2 omG)) (show inP op 1 16 = false by with_reducible assumption)))|skip
theorem qba (M : Int -> Int -> Int -> List V.Term -> V.Term × Bool) (b : Bool) (op w : Int) (ks : List V.Term) (hM : M = s1) (hb : b = false) (hn : okTs ks = true) : CallsG Tryz.prog 67 [.ptr 0 0,.dat (.i op),.dat (.i w),.row 1] [.box [.dat (.bool b)],.row 90 .terms ks false] 1 (fun res B=>res = i5 (M op w 0 ks).1 /\ B = [.box [.dat (.bool (!(M op w 0 ks).2))]]) := by
  subst hM
  exact jN b op w ks hb hn
end Vg
