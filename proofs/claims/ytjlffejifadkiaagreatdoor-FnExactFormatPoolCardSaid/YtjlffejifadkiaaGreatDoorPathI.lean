/- Paths: contracts of the program's functions up to a step. Condition: the path is one under way (PI), the instruction is the program's. -/
import Derived.Test.YtjlffejifadkiaaGreatDoorPathQ
namespace Vg
open Go Go.Proofs
set_option maxRecDepth 100000
set_option maxHeartbeats 40000000
theorem fr10 {B : List Blk} {L : List Nat} {y : V.Path} {pc ic cd sp : Int} {rg mm ot cn : List V.Term} {sk tr : List Int} (h : y = ⟨pc, rg, mm, sk, ic, ot, cd, sp, cn, tr⟩) :
    frzC B (.dat (.i y.pc)) (AV.numC L (.dat (.int .i64 pc))) ∧ frzL B [.dat (.seq .terms y.regs), .dat (.seq .terms y.mem), .dat (.seq .ints y.stack), .dat (.i y.inn), .dat (.seq .terms y.out), .dat (.i y.code), .dat (.i y.steps), .dat (.seq .terms y.cond), .dat (.seq .ints y.turns)]
      [AV.numC L (.dat (.seq .terms rg)), AV.numC L (.dat (.seq .terms mm)), AV.numC L (.dat (.seq .ints sk)), AV.numC L (.dat (.int .i64 ic)), AV.numC L (.dat (.seq .terms ot)), AV.numC L (.dat (.int .i64 cd)), AV.numC L (.dat (.int .i64 sp)), AV.numC L (.dat (.seq .terms cn)), AV.numC L (.dat (.seq .ints tr))] := by
  subst h
  exact ⟨rfl, rfl, rfl, rfl, rfl, rfl, rfl, rfl, rfl, rfl, True.intro⟩
theorem fr10M {B : List Blk} {L : List Nat} {y : V.Path} {pc ic cd sp : Int} {rg mm ot cn : List V.Term} {sk tr : List Int} (h : y = ⟨pc, rg, mm, sk, ic, ot, cd, sp, cn, tr⟩) :
    frzM B (datPt y) (AV.numM L (.agg [.dat (.int .i64 pc), .dat (.seq .terms rg), .dat (.seq .terms mm), .dat (.seq .ints sk), .dat (.int .i64 ic), .dat (.seq .terms ot), .dat (.int .i64 cd), .dat (.int .i64 sp), .dat (.seq .terms cn), .dat (.seq .ints tr)])) := by
  subst h
  exact ⟨rfl, rfl, rfl, rfl, rfl, rfl, rfl, rfl, rfl, rfl, True.intro⟩
theorem frB {B : List Blk} {L : List Nat} {t u : Bool} (h : t = u) : frzM B (.dat (.bool t)) (AV.numM L (.dat (.bool u))) := by rw [h]; exact rfl
section
variable {p : V.Prog} {s : V.Path} {op a b c : Int}
theorem ins_c {op w n : Int} (h : qfc ⟨op, a, b, c⟩ w n = true) (ho : op = 3) : 3 ≤ c ∧ c ≤ 16 := by
  subst ho
  simp [qfc, qom, inP] at h
  omega
theorem qko (h1 : ¬ op = 10) (h2 : ¬ op = 13) (h3 : ¬ op = 3) : qdc s ⟨op, a, b, c⟩ = { s with code := 5 } := by
  unfold qdc
  rw [if_neg h1, if_neg h2, if_neg h3]
theorem asks_3n (h1 : ¬ c = 6) (h2 : ¬ c = 7) : qcb ⟨3, a, b, c⟩ = false := decide_eq_false (by show ¬ (3 = 10 ∨ 3 = 13 ∨ ((3 : Int) = 3 ∧ (c = 6 ∨ c = 7)) ∨ 3 = 7 ∨ 3 = 8); omega)
theorem ask_3n (h1 : ¬ c = 6) (h2 : ¬ c = 7) : qb1 p s ⟨3, a, b, c⟩ = (zT, true) := by
  show (if (c = 6 ∨ c = 7) then _ else _) = _
  rw [if_neg omG]
theorem asks_no (h1 : ¬ op = 10) (h2 : ¬ op = 13) (h3 : ¬ op = 3) (h7 : ¬ op = 7) (h8 : ¬ op = 8) : qcb ⟨op, a, b, c⟩ = false := decide_eq_false (by show ¬ (op = 10 ∨ op = 13 ∨ (op = 3 ∧ (c = 6 ∨ c = 7)) ∨ op = 7 ∨ op = 8); omega)
theorem ask_no (h1 : ¬ op = 10) (h2 : ¬ op = 13) (h3 : ¬ op = 3) (h7 : ¬ op = 7) (h8 : ¬ op = 8) : qb1 p s ⟨op, a, b, c⟩ = (zT, true) := by
  unfold qb1
  rw [if_neg (by show ¬ (op = 10 ∨ op = 13); omega), if_neg h3, if_neg h7, if_neg h8]
theorem addr_n {x : V.Term} (h : (mkP 15 1 0 [x, cT p.w p.mem]).2 = false) : qep p x = (zT, false) := by
  unfold qep qly
  rw [if_neg (by rw [h]; decide)]
theorem addr_y {x : V.Term} (h : (mkP 15 1 0 [x, cT p.w p.mem]).2 = true) : qep p x = mkP 1 1 0 [(mkP 15 1 0 [x, cT p.w p.mem]).1] := by
  unfold qep qly
  rw [if_pos h]
theorem cell_n {k : Int} {x u v : V.Term} (h : (mkP 14 1 0 [cT p.w k, x]).2 = false) : qcs p k x u v = (zT, false) := by
  unfold qcs
  rw [if_neg (by rw [h]; decide)]
theorem cell_y {k : Int} {x u v : V.Term} (h : (mkP 14 1 0 [cT p.w k, x]).2 = true) : qcs p k x u v = mkP 17 p.w 0 [(mkP 14 1 0 [cT p.w k, x]).1, u, v] := by
  unfold qcs
  rw [if_pos h]
theorem oper_1 {u v : V.Term} (h : (mkP op (rwP op p.w) 0 [u, v]).2 = false) : qen p op u v = mkP op (rwP op p.w) 0 [u, v] := if_pos (.inl h)
theorem oper_2 {u v : V.Term} (h : op < 14) : qen p op u v = mkP op (rwP op p.w) 0 [u, v] := if_pos (.inr h)
theorem oper_3 {u v : V.Term} (h : (mkP op (rwP op p.w) 0 [u, v]).2 = true) (h2 : ¬ op < 14) : qen p op u v = mkP 20 p.w 0 [(mkP op (rwP op p.w) 0 [u, v]).1] := if_neg (fun q => q.elim (fun e => by rw [h] at e; cases e) h2)
end
theorem i_named (pc : Int) (rg mm : List V.Term) (sk : List Int) (ic : Int) (ot : List V.Term) (cd sp : Int) (cn : List V.Term) (tr : List Int) (op a b c : Int) : CallsV Tryz.prog 133 [.agg [.dat (.i pc), .dat (.seq .terms rg), .dat (.seq .terms mm), .dat (.seq .ints sk), .dat (.i ic), .dat (.seq .terms ot), .dat (.i cd), .dat (.i sp), .dat (.seq .terms cn), .dat (.seq .ints tr)], .agg [.dat (.i op), .dat (.i a), .dat (.i b), .dat (.i c)]] (datPt (qdc ⟨pc, rg, mm, sk, ic, ot, cd, sp, cn, tr⟩ ⟨op, a, b, c⟩)) := by
  refine oV Tryz.func133 ⟨?_⟩
  repeat' (first | ((with_reducible refine fun (K1 : KT) hK => ?_); refine stW ⟨?_⟩) | ((with_reducible show K1 _ _); subst hK; conv => whnf) | (with_reducible refine frG ?_) | (with_reducible exact rfl) | refine st0 ⟨?_⟩ | ((with_reducible refine SplS.mk (fun h => ?_) (fun h => ?_)) <;> first | exact ctM | (subst h; conv => whnf) | (conv => whnf)) | (intro h; conv => whnf))
  all_goals repeat clear hK K1
  all_goals first | exact ⟨fr10 rfl⟩ | exact ⟨fr10 (qko asmR asmR asmR)⟩ | skip
theorem i_stuck (w mem inn : Int) (code : List V.Ins) (pc : Int) (rg mm : List V.Term) (sk : List Int) (ic : Int) (ot : List V.Term) (cd sp : Int) (cn : List V.Term) (tr : List Int) (op a b c : Int) : CallsV Tryz.prog 104 [.agg [.dat (.i w), .dat (.i mem), .dat (.i inn), .dat (.seq .inss code)], .agg [.dat (.i pc), .dat (.seq .terms rg), .dat (.seq .terms mm), .dat (.seq .ints sk), .dat (.i ic), .dat (.seq .terms ot), .dat (.i cd), .dat (.i sp), .dat (.seq .terms cn), .dat (.seq .ints tr)], .agg [.dat (.i op), .dat (.i a), .dat (.i b), .dat (.i c)]] (.dat (.i (qav ⟨w, mem, inn, code⟩ ⟨pc, rg, mm, sk, ic, ot, cd, sp, cn, tr⟩ ⟨op, a, b, c⟩))) := by
  refine oV Tryz.func104 ⟨?_⟩
  repeat' (first | ((with_reducible refine fun (K1 : KT) hK => ?_); refine stW ⟨?_⟩) | ((with_reducible show K1 _ _); subst hK; conv => whnf) | (with_reducible exact rfl) | refine st0 ⟨?_⟩ | ((with_reducible refine SplS.mk (fun h => ?_) (fun h => ?_)) <;> first | exact ctM | (subst h; conv => whnf) | (conv => whnf)) | (intro h; conv => whnf))
  all_goals repeat clear hK K1
  all_goals first | (refine qfn (Eq.symm ?_); unfold qav; (repeat (first | rw [if_pos (by dsimp only; omega)] | rw [if_neg (by dsimp only; omega)])); done) | skip
theorem qgp (op w : Int) (ho : 3 ≤ op ∧ op ≤ 16) (hw : inP w 1 16 = true) : CallsV Tryz.prog 179 [.dat (.i op), .dat (.i w)] (.dat (.i (rwP op w))) := by
  refine oV Tryz.func179 ⟨?_⟩
  repeat' (first | ((with_reducible refine fun (K1 : KT) hK => ?_); refine stW ⟨?_⟩) | ((with_reducible show K1 _ _); subst hK; conv => whnf) | (with_reducible exact rfl) | refine st0 ⟨?_⟩ | ((with_reducible refine SplS.mk (fun h => ?_) (fun h => ?_)) <;> first | exact ctM | (subst h; conv => whnf) | (conv => whnf)) | ((with_reducible first | refine pcI (g := 128) ?_ | show Exists _); refine ⟨_, qea .., rfl, ?_⟩; rotate_right; conv => whnf) | (intro h; conv => whnf))
  all_goals repeat clear hK K1
  all_goals first | (refine qfn (Eq.symm ?_); unfold rwP; (first | rw [if_pos omG] | rw [if_neg omG]); done) | (exfalso; omega) | (exact absurd (hw.symm.trans asmR) (by decide)) | skip
theorem qkt (w mem inn : Int) (code : List V.Ins) (pc : Int) (rg mm : List V.Term) (sk : List Int) (ic : Int) (ot : List V.Term) (cd sp : Int) (cn : List V.Term) (tr : List Int) (op a b c : Int) (hp : qbz ⟨w, mem, inn, code⟩ = true) (hr : rg.length = 4) (hi : qfc ⟨op, a, b, c⟩ w code.length = true) : CallsV Tryz.prog 131 [.agg [.dat (.i w), .dat (.i mem), .dat (.i inn), .dat (.seq .inss code)], .agg [.dat (.i pc), .dat (.seq .terms rg), .dat (.seq .terms mm), .dat (.seq .ints sk), .dat (.i ic), .dat (.seq .terms ot), .dat (.i cd), .dat (.i sp), .dat (.seq .terms cn), .dat (.seq .ints tr)], .agg [.dat (.i op), .dat (.i a), .dat (.i b), .dat (.i c)]] (.tup [qbj (qb1 ⟨w, mem, inn, code⟩ ⟨pc, rg, mm, sk, ic, ot, cd, sp, cn, tr⟩ ⟨op, a, b, c⟩).1, .dat (.bool (qcb ⟨op, a, b, c⟩)), .dat (.bool (qb1 ⟨w, mem, inn, code⟩ ⟨pc, rg, mm, sk, ic, ot, cd, sp, cn, tr⟩ ⟨op, a, b, c⟩).2)]) := by
  refine oV Tryz.func131 ⟨?_⟩
  repeat' (first | ((with_reducible refine fun (K1 : KT) hK => ?_); refine stW ⟨?_⟩) | ((with_reducible show K1 _ _); subst hK; conv => whnf) | (with_reducible exact rfl) | refine stD ⟨?_⟩ | ((with_reducible show WEach _ _); refine qag rfl ?_ ?_; conv => whnf) | refine st0 ⟨?_⟩ | ((with_reducible refine SplS.mk (fun h => ?_) (fun h => ?_)) <;> first | exact ctM | (subst h; conv => whnf) | (conv => whnf)) | refine stB ⟨?_⟩ ⟨?_⟩ | ((with_reducible first | refine pcI (g := 103) ?_ | show Exists _); refine ⟨_, i_ConstTerm (h := ?_) .., rfl, ?_⟩; rotate_right; conv => whnf) | ((with_reducible first | refine pcI (g := 136) ?_ | show Exists _); refine ⟨_, qb4 .., rfl, ?_⟩; rotate_right; conv => whnf) | ((with_reducible refine zcI (g := 103) ?_); (conv => whnf); refine ⟨_, _, i_ConstTerm (h := ?_) .., rfl, fun res B hRB => ?_⟩; rotate_right; obtain ⟨rfl, rfl⟩ := hRB; conv => whnf) | ((with_reducible refine zcI (g := 136) ?_); (conv => whnf); refine ⟨_, _, qb4 .., rfl, fun res B hRB => ?_⟩; rotate_right; obtain ⟨rfl, rfl⟩ := hRB; conv => whnf) | (intro h; conv => whnf))
  all_goals repeat clear hK K1
  all_goals first | exact True.intro | ((with_reducible show (_ : Int) ≤ _); first | (exact (qee hi omG).1) | (exact (qeo hi omG).1) | omega) | ((with_reducible show (_ : Int) < _); first | (have q := qee hi omG; omega) | (have q := qeo hi omG; omega) | omega) | ((with_reducible show wordP _ _ = true); first | exact zero_word (progP_w hp) | exact (qa8 hp).2.2.1) | ((try simp only [V.Term.eta] at *); first | exact fr5M ((congrArg Prod.fst (addr_y (p := ⟨w, mem, inn, code⟩) asmR)).trans (V.Term.eta _).symm) | exact frB (congrArg Prod.snd (addr_y (p := ⟨w, mem, inn, code⟩) asmR)) | exact fr5Mn (congrArg Prod.fst (addr_n (p := ⟨w, mem, inn, code⟩) asmR)) | exact frB (congrArg Prod.snd (addr_n (p := ⟨w, mem, inn, code⟩) asmR)) | exact fr5Mn (congrArg Prod.fst (ask_3n asmR asmR)) | exact frB (congrArg Prod.snd (ask_3n asmR asmR)) | exact frB (asks_3n asmR asmR) | exact fr5Mn (congrArg Prod.fst (ask_no asmR asmR asmR asmR asmR)) | exact frB (congrArg Prod.snd (ask_no asmR asmR asmR asmR asmR)) | exact frB (asks_no asmR asmR asmR asmR asmR) | exact fr5M (V.Term.eta _).symm | exact frB rfl) | skip
theorem i_cellIs (w mem inn : Int) (code : List V.Ins) (k : Int) (xo xw xn : Int) (xm : ByteArray) (xk : List V.Term) (uo uw un : Int) (um : ByteArray) (uk : List V.Term) (vo vw vn : Int) (vm : ByteArray) (vk : List V.Term) (hk : wordP w k = true) : CallsV Tryz.prog 181 [.agg [.dat (.i w), .dat (.i mem), .dat (.i inn), .dat (.seq .inss code)], .dat (.i k), .agg [.dat (.i xo), .dat (.i xw), .dat (.i xn), .dat (.str xm), .dat (.seq .terms xk)], .agg [.dat (.i uo), .dat (.i uw), .dat (.i un), .dat (.str um), .dat (.seq .terms uk)], .agg [.dat (.i vo), .dat (.i vw), .dat (.i vn), .dat (.str vm), .dat (.seq .terms vk)]] (.tup [qbj (qcs ⟨w, mem, inn, code⟩ k ⟨xo, xw, xn, xm, xk⟩ ⟨uo, uw, un, um, uk⟩ ⟨vo, vw, vn, vm, vk⟩).1, .dat (.bool (qcs ⟨w, mem, inn, code⟩ k ⟨xo, xw, xn, xm, xk⟩ ⟨uo, uw, un, um, uk⟩ ⟨vo, vw, vn, vm, vk⟩).2)]) := by
  refine oV Tryz.func181 ⟨?_⟩
  repeat' (first | ((with_reducible refine fun (K1 : KT) hK => ?_); refine stW ⟨?_⟩) | ((with_reducible show K1 _ _); subst hK; conv => whnf) | (with_reducible exact rfl) | refine stD ⟨?_⟩ | ((with_reducible show WEach _ _); refine qag rfl ?_ ?_; conv => whnf) | refine st0 ⟨?_⟩ | ((with_reducible refine SplS.mk (fun h => ?_) (fun h => ?_)) <;> first | exact ctM | (subst h; conv => whnf) | (conv => whnf)) | refine stB ⟨?_⟩ ⟨?_⟩ | ((with_reducible first | refine pcI (g := 136) ?_ | show Exists _); refine ⟨_, qb4 .., rfl, ?_⟩; rotate_right; conv => whnf) | ((with_reducible first | refine pcI (g := 103) ?_ | show Exists _); refine ⟨_, i_ConstTerm (h := ?_) .., rfl, ?_⟩; rotate_right; conv => whnf) | ((with_reducible refine zcI (g := 136) ?_); (conv => whnf); refine ⟨_, _, qb4 .., rfl, fun res B hRB => ?_⟩; rotate_right; obtain ⟨rfl, rfl⟩ := hRB; conv => whnf) | ((with_reducible refine zcI (g := 103) ?_); (conv => whnf); refine ⟨_, _, i_ConstTerm (h := ?_) .., rfl, fun res B hRB => ?_⟩; rotate_right; obtain ⟨rfl, rfl⟩ := hRB; conv => whnf) | (intro h; conv => whnf))
  all_goals repeat clear hK K1
  all_goals first | exact True.intro | exact hk | ((try simp only [V.Term.eta] at *); first | exact fr5M ((congrArg Prod.fst (cell_y (p := ⟨w, mem, inn, code⟩) asmR)).trans (V.Term.eta _).symm) | exact frB (congrArg Prod.snd (cell_y (p := ⟨w, mem, inn, code⟩) asmR)) | exact fr5Mn (congrArg Prod.fst (cell_n (p := ⟨w, mem, inn, code⟩) asmR)) | exact frB (congrArg Prod.snd (cell_n (p := ⟨w, mem, inn, code⟩) asmR))) | skip
theorem qkv (w mem inn : Int) (code : List V.Ins) (op : Int) (uo uw un : Int) (um : ByteArray) (uk : List V.Term) (vo vw vn : Int) (vm : ByteArray) (vk : List V.Term) (hp : qbz ⟨w, mem, inn, code⟩ = true) (ho : 3 ≤ op ∧ op ≤ 16) : CallsV Tryz.prog 153 [.agg [.dat (.i w), .dat (.i mem), .dat (.i inn), .dat (.seq .inss code)], .dat (.i op), .agg [.dat (.i uo), .dat (.i uw), .dat (.i un), .dat (.str um), .dat (.seq .terms uk)], .agg [.dat (.i vo), .dat (.i vw), .dat (.i vn), .dat (.str vm), .dat (.seq .terms vk)]] (.tup [qbj (qen ⟨w, mem, inn, code⟩ op ⟨uo, uw, un, um, uk⟩ ⟨vo, vw, vn, vm, vk⟩).1, .dat (.bool (qen ⟨w, mem, inn, code⟩ op ⟨uo, uw, un, um, uk⟩ ⟨vo, vw, vn, vm, vk⟩).2)]) := by
  refine oV Tryz.func153 ⟨?_⟩
  repeat' (first | ((with_reducible refine fun (K1 : KT) hK => ?_); refine stW ⟨?_⟩) | ((with_reducible show K1 _ _); subst hK; conv => whnf) | (with_reducible exact rfl) | refine stD ⟨?_⟩ | ((with_reducible show WEach _ _); refine qag rfl ?_ ?_; conv => whnf) | refine st0 ⟨?_⟩ | ((with_reducible refine SplS.mk (fun h => ?_) (fun h => ?_)) <;> first | exact ctM | (subst h; conv => whnf) | (conv => whnf)) | refine stB ⟨?_⟩ ⟨?_⟩ | ((with_reducible first | refine pcI (g := 136) ?_ | show Exists _); refine ⟨_, qb4 .., rfl, ?_⟩; rotate_right; conv => whnf) | ((with_reducible first | refine pcI (g := 179) ?_ | show Exists _); refine ⟨_, qgp (ho := ?_) (hw := ?_) .., rfl, ?_⟩; rotate_right; conv => whnf) | ((with_reducible refine zcI (g := 136) ?_); (conv => whnf); refine ⟨_, _, qb4 .., rfl, fun res B hRB => ?_⟩; rotate_right; obtain ⟨rfl, rfl⟩ := hRB; conv => whnf) | ((with_reducible refine zcI (g := 179) ?_); (conv => whnf); refine ⟨_, _, qgp (ho := ?_) (hw := ?_) .., rfl, fun res B hRB => ?_⟩; rotate_right; obtain ⟨rfl, rfl⟩ := hRB; conv => whnf) | (intro h; conv => whnf))
  all_goals repeat clear hK K1
  all_goals first | exact True.intro | exact progP_w hp | ((with_reducible show (_ : Int) ≤ _); omega) | ((try simp only [V.Term.eta] at *); first | exact fr5M ((congrArg Prod.fst (oper_3 (p := ⟨w, mem, inn, code⟩) asmR asmR)).trans (V.Term.eta _).symm) | exact frB (congrArg Prod.snd (oper_3 (p := ⟨w, mem, inn, code⟩) asmR asmR)) | exact fr5M ((congrArg Prod.fst (oper_1 (p := ⟨w, mem, inn, code⟩) asmR)).trans (V.Term.eta _).symm) | exact frB ((congrArg Prod.snd (oper_1 (p := ⟨w, mem, inn, code⟩) asmR)).trans asmR) | exact frB (congrArg Prod.snd (oper_1 (p := ⟨w, mem, inn, code⟩) asmR)) | exact fr5M ((congrArg Prod.fst (oper_2 (p := ⟨w, mem, inn, code⟩) asmR)).trans (V.Term.eta _).symm) | exact frB ((congrArg Prod.snd (oper_2 (p := ⟨w, mem, inn, code⟩) asmR)).trans asmR) | exact frB (congrArg Prod.snd (oper_2 (p := ⟨w, mem, inn, code⟩) asmR))) | skip
end Vg
