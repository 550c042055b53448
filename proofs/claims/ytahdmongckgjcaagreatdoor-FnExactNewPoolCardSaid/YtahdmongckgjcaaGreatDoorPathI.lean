/- Paths: contracts of the program's functions up to a step. Condition: the path is one under way (PI), the instruction is the program's. -/
import Derived.Test.YtahdmongckgjcaaGreatDoorPathQ
namespace Vg
open Go Go.Proofs
theorem fr10 {B : List Blk} {L : List Nat} {y : V.Path} {pc ic cd sp : Int} {rg mm ot cn : List V.Term} {sk tr : List Int} (h : y = ⟨pc, rg, mm, sk, ic, ot, cd, sp, cn, tr⟩) :
    frzC B (.dat (.i y.pc)) (AV.numC L (.dat (.int .i64 pc))) ∧ frzL B [.dat (.seq .terms y.regs), .dat (.seq .terms y.mem), .dat (.seq .ints y.stack), .dat (.i y.inn), .dat (.seq .terms y.out), .dat (.i y.code), .dat (.i y.steps), .dat (.seq .terms y.cond), .dat (.seq .ints y.turns)]
      [AV.numC L (.dat (.seq .terms rg)), AV.numC L (.dat (.seq .terms mm)), AV.numC L (.dat (.seq .ints sk)), AV.numC L (.dat (.int .i64 ic)), AV.numC L (.dat (.seq .terms ot)), AV.numC L (.dat (.int .i64 cd)), AV.numC L (.dat (.int .i64 sp)), AV.numC L (.dat (.seq .terms cn)), AV.numC L (.dat (.seq .ints tr))] := by
  subst h
  exact ⟨rfl, rfl, rfl, rfl, rfl, rfl, rfl, rfl, rfl, rfl, True.intro⟩
theorem fr10M {B : List Blk} {L : List Nat} {y : V.Path} {pc ic cd sp : Int} {rg mm ot cn : List V.Term} {sk tr : List Int} (h : y = ⟨pc, rg, mm, sk, ic, ot, cd, sp, cn, tr⟩) :
    frzM B (datPt y) (AV.numM L (.agg [.dat (.int .i64 pc), .dat (.seq .terms rg), .dat (.seq .terms mm), .dat (.seq .ints sk), .dat (.int .i64 ic), .dat (.seq .terms ot), .dat (.int .i64 cd), .dat (.int .i64 sp), .dat (.seq .terms cn), .dat (.seq .ints tr)])) := by
  subst h
  exact ⟨rfl, rfl, rfl, rfl, rfl, rfl, rfl, rfl, rfl, rfl, True.intro⟩
theorem frB {B : List Blk} {L : List Nat} {t u : Bool} (h : t = u) : frzM B (.dat (.bool t)) (AV.numM L (.dat (.bool u))) := by rw [h]; exact rfl
section
variable {p : V.Prog} {s : V.Path} {op a b c : Int}
theorem named_else (h1 : ¬ op = 10) (h2 : ¬ op = 13) (h3 : ¬ op = 3) : namedP s ⟨op, a, b, c⟩ = { s with code := 5 } := by
  unfold namedP
  rw [if_neg h1, if_neg h2, if_neg h3]
theorem asks_3n (h1 : ¬ c = 6) (h2 : ¬ c = 7) : asksB ⟨3, a, b, c⟩ = false := decide_eq_false (by show ¬ (3 = 10 ∨ 3 = 13 ∨ ((3 : Int) = 3 ∧ (c = 6 ∨ c = 7)) ∨ 3 = 7 ∨ 3 = 8); omega)
theorem ask_3n (h1 : ¬ c = 6) (h2 : ¬ c = 7) : askP p s ⟨3, a, b, c⟩ = (zT, true) := by
  show (if (c = 6 ∨ c = 7) then _ else _) = _
  rw [if_neg (by omega)]
theorem asks_no (h1 : ¬ op = 10) (h2 : ¬ op = 13) (h3 : ¬ op = 3) (h7 : ¬ op = 7) (h8 : ¬ op = 8) : asksB ⟨op, a, b, c⟩ = false := decide_eq_false (by show ¬ (op = 10 ∨ op = 13 ∨ (op = 3 ∧ (c = 6 ∨ c = 7)) ∨ op = 7 ∨ op = 8); omega)
theorem ask_no (h1 : ¬ op = 10) (h2 : ¬ op = 13) (h3 : ¬ op = 3) (h7 : ¬ op = 7) (h8 : ¬ op = 8) : askP p s ⟨op, a, b, c⟩ = (zT, true) := by
  unfold askP
  rw [if_neg (by show ¬ (op = 10 ∨ op = 13); omega), if_neg h3, if_neg h7, if_neg h8]
theorem addr_n {x : V.Term} (h : (mkP 15 1 0 [x, cT p.w p.mem]).2 = false) : addrP p x = (zT, false) := by
  unfold addrP lessP
  rw [if_neg (by rw [h]; decide)]
theorem addr_y {x : V.Term} (h : (mkP 15 1 0 [x, cT p.w p.mem]).2 = true) : addrP p x = mkP 1 1 0 [(mkP 15 1 0 [x, cT p.w p.mem]).1] := by
  unfold addrP lessP
  rw [if_pos h]
theorem cell_n {k : Int} {x u v : V.Term} (h : (mkP 14 1 0 [cT p.w k, x]).2 = false) : cellP p k x u v = (zT, false) := by
  unfold cellP
  rw [if_neg (by rw [h]; decide)]
theorem cell_y {k : Int} {x u v : V.Term} (h : (mkP 14 1 0 [cT p.w k, x]).2 = true) : cellP p k x u v = mkP 17 p.w 0 [(mkP 14 1 0 [cT p.w k, x]).1, u, v] := by
  unfold cellP
  rw [if_pos h]
theorem oper_1 {u v : V.Term} (h : (mkP op (rwP op p.w) 0 [u, v]).2 = false) : operP p op u v = mkP op (rwP op p.w) 0 [u, v] := if_pos (.inl h)
theorem oper_2 {u v : V.Term} (h : op < 14) : operP p op u v = mkP op (rwP op p.w) 0 [u, v] := if_pos (.inr h)
theorem oper_3 {u v : V.Term} (h : (mkP op (rwP op p.w) 0 [u, v]).2 = true) (h2 : ¬ op < 14) : operP p op u v = mkP 20 p.w 0 [(mkP op (rwP op p.w) 0 [u, v]).1] := if_neg (fun q => q.elim (fun e => by rw [h] at e; cases e) h2)
end
set_option maxRecDepth 100000 in
theorem i_named (pc : Int) (rg mm : List V.Term) (sk : List Int) (ic : Int) (ot : List V.Term) (cd sp : Int) (cn : List V.Term) (tr : List Int) (op a b c : Int) : CallsV Tryz.prog 122 [.agg [.dat (.i pc), .dat (.seq .terms rg), .dat (.seq .terms mm), .dat (.seq .ints sk), .dat (.i ic), .dat (.seq .terms ot), .dat (.i cd), .dat (.i sp), .dat (.seq .terms cn), .dat (.seq .ints tr)], .agg [.dat (.i op), .dat (.i a), .dat (.i b), .dat (.i c)]] (datPt (namedP ⟨pc, rg, mm, sk, ic, ot, cd, sp, cn, tr⟩ ⟨op, a, b, c⟩)) := by
  refine CallsV.of_awp tauOk mixOk Tryz.func122 rfl rfl rfl ?_
  conv => whnf
  repeat' (first
    | ((with_reducible refine fun (K1 : AX → AState → Prop) hK => ?_); (with_reducible refine awp_rg ?_ ?_); exact rfl; conv => whnf)
    | (with_reducible refine frG ?_)
    | ((with_reducible refine fun (K1 : AX → AState → Prop) hK => ?_); conv => whnf)
    | ((with_reducible show K1 _ _); subst hK; conv => whnf)
    | (with_reducible exact rfl)
    | ((with_reducible refine sp_e (fun h => ?_) (fun h => ?_)) <;> first | contradiction | (subst h; conv => whnf) | (conv => whnf))
    | (refine ⟨(rfl : nodupB _ = true), rfl, ?_⟩; conv => whnf)
    | ((with_reducible show awpOps _ _ _ _ _ _); conv => whnf)
    | (intro h; conv => whnf))
  all_goals (repeat (clear hK; clear K1))
  all_goals first
    | exact ⟨fr10 rfl⟩
    | exact ⟨fr10 (named_else (by with_reducible assumption) (by with_reducible assumption) (by with_reducible assumption))⟩
    | skip
set_option maxRecDepth 100000 in
theorem i_stuck (w mem inn : Int) (code : List V.Ins) (pc : Int) (rg mm : List V.Term) (sk : List Int) (ic : Int) (ot : List V.Term) (cd sp : Int) (cn : List V.Term) (tr : List Int) (op a b c : Int) : CallsV Tryz.prog 106 [.agg [.dat (.i w), .dat (.i mem), .dat (.i inn), .dat (.seq .inss code)], .agg [.dat (.i pc), .dat (.seq .terms rg), .dat (.seq .terms mm), .dat (.seq .ints sk), .dat (.i ic), .dat (.seq .terms ot), .dat (.i cd), .dat (.i sp), .dat (.seq .terms cn), .dat (.seq .ints tr)], .agg [.dat (.i op), .dat (.i a), .dat (.i b), .dat (.i c)]] (.dat (.i (stuckP ⟨w, mem, inn, code⟩ ⟨pc, rg, mm, sk, ic, ot, cd, sp, cn, tr⟩ ⟨op, a, b, c⟩))) := by
  refine CallsV.of_awp tauOk mixOk Tryz.func106 rfl rfl rfl ?_
  conv => whnf
  repeat' (first
    | ((with_reducible refine fun (K1 : AX → AState → Prop) hK => ?_); (with_reducible refine awp_rg ?_ ?_); exact rfl; conv => whnf)
    | ((with_reducible refine fun (K1 : AX → AState → Prop) hK => ?_); conv => whnf)
    | ((with_reducible show K1 _ _); subst hK; conv => whnf)
    | (with_reducible exact rfl)
    | ((with_reducible refine sp_T ?_); conv => whnf)
    | ((with_reducible refine sp_F ?_); conv => whnf)
    | ((with_reducible refine sp_d (fun h => ?_) (fun h => ?_)) <;> first | contradiction | (subst h; conv => whnf) | (conv => whnf))
    | ((with_reducible refine sp_eF ?_ ?_); decide; conv => whnf)
    | ((with_reducible refine sp_e (fun h => ?_) (fun h => ?_)) <;> first | contradiction | (subst h; conv => whnf) | (conv => whnf))
    | (refine ⟨(rfl : nodupB _ = true), rfl, ?_⟩; conv => whnf)
    | ((with_reducible show awpOps _ _ _ _ _ _); conv => whnf)
    | (intro h; conv => whnf))
  all_goals (repeat (clear hK; clear K1))
  all_goals first
    | (refine di_eq' (Eq.symm ?_); unfold stuckP; (repeat (first | rw [if_pos (by dsimp only; omega)] | rw [if_neg (by dsimp only; omega)])); done)
    | skip
set_option maxRecDepth 100000 in
theorem i_ResultWidth (op w : Int) (ho : 3 ≤ op ∧ op ≤ 16) (hw : inP w 1 16 = true) : CallsV Tryz.prog 155 [.dat (.i op), .dat (.i w)] (.dat (.i (rwP op w))) := by
  refine CallsV.of_awp tauOk mixOk Tryz.func155 rfl rfl rfl ?_
  conv => whnf
  repeat' (first
    | ((with_reducible refine fun (K1 : AX → AState → Prop) hK => ?_); (with_reducible refine awp_rg ?_ ?_); exact rfl; conv => whnf)
    | ((with_reducible refine fun (K1 : AX → AState → Prop) hK => ?_); conv => whnf)
    | ((with_reducible show K1 _ _); subst hK; conv => whnf)
    | (with_reducible exact rfl)
    | ((with_reducible refine sp_T ?_); conv => whnf)
    | ((with_reducible refine sp_T' ?_); conv => whnf)
    | ((with_reducible refine sp_F' ?_); conv => whnf)
    | ((with_reducible refine sp_d (fun h => ?_) (fun h => ?_)) <;> first | contradiction | (subst h; conv => whnf) | (conv => whnf))
    | ((with_reducible refine sp_d' (fun h => ?_) (fun h => ?_)) <;> first | contradiction | (subst h; conv => whnf) | (conv => whnf))
    | ((with_reducible refine sp_nb' (fun h => ?_) (fun h => ?_)) <;> first | (exact Bool.noConfusion (Eq.trans (Eq.symm h) (show _ = true by with_reducible assumption))) | (exact Bool.noConfusion (Eq.trans (Eq.symm (show _ = false by with_reducible assumption)) h)) | (conv => whnf))
    | (refine ⟨(rfl : nodupB _ = true), rfl, ?_⟩; conv => whnf)
    | ((with_reducible refine pcI (g := 102) ?_); refine ⟨_, i_isWidth .., rfl, ?_⟩; rotate_right; conv => whnf)
    | ((with_reducible show Exists _); refine Exists.intro _ (And.intro (i_isWidth ..) (And.intro rfl ?_)); rotate_right; conv => whnf)
    | ((with_reducible show awpOps _ _ _ _ _ _); conv => whnf)
    | (intro h; conv => whnf))
  all_goals (repeat (clear hK; clear K1))
  all_goals first
    | (refine di_eq' (Eq.symm ?_); unfold rwP; (first | rw [if_pos (by omega)] | rw [if_neg (by omega)]); done)
    | (exfalso; omega)
    | (exact absurd (hw.symm.trans (by with_reducible assumption)) (by decide))
    | skip
set_option maxHeartbeats 4000000 in
set_option maxRecDepth 100000 in
theorem i_question (w mem inn : Int) (code : List V.Ins) (pc : Int) (rg mm : List V.Term) (sk : List Int) (ic : Int) (ot : List V.Term) (cd sp : Int) (cn : List V.Term) (tr : List Int) (op a b c : Int) (hp : progP ⟨w, mem, inn, code⟩ = true) (hr : rg.length = 4) (hi : insP ⟨op, a, b, c⟩ w code.length = true) : CallsV Tryz.prog 120 [.agg [.dat (.i w), .dat (.i mem), .dat (.i inn), .dat (.seq .inss code)], .agg [.dat (.i pc), .dat (.seq .terms rg), .dat (.seq .terms mm), .dat (.seq .ints sk), .dat (.i ic), .dat (.seq .terms ot), .dat (.i cd), .dat (.i sp), .dat (.seq .terms cn), .dat (.seq .ints tr)], .agg [.dat (.i op), .dat (.i a), .dat (.i b), .dat (.i c)]] (.tup [datT (askP ⟨w, mem, inn, code⟩ ⟨pc, rg, mm, sk, ic, ot, cd, sp, cn, tr⟩ ⟨op, a, b, c⟩).1, .dat (.bool (asksB ⟨op, a, b, c⟩)), .dat (.bool (askP ⟨w, mem, inn, code⟩ ⟨pc, rg, mm, sk, ic, ot, cd, sp, cn, tr⟩ ⟨op, a, b, c⟩).2)]) := by
  refine CallsV.of_awp tauOk mixOk Tryz.func120 rfl rfl rfl ?_
  conv => whnf
  repeat' (first
    | ((with_reducible refine fun (K1 : AX → AState → Prop) hK => ?_); (with_reducible refine awp_rg ?_ ?_); exact rfl; conv => whnf)
    | ((with_reducible refine fun (K1 : AX → AState → Prop) hK => ?_); (with_reducible refine awp_dw ?_ ?_); exact rfl; (conv => whnf); simp only [List.nil_append, List.cons_append])
    | ((with_reducible refine WRun_nil ?_); conv => whnf)
    | ((with_reducible refine WRun_go ?_ ?_); exact rfl; conv => whnf)
    | ((with_reducible refine WRun_skip ?_ ?_); exact rfl)
    | ((with_reducible refine WAg_nil ?_))
    | ((with_reducible refine WAg_go ?_ ?_); exact rfl; conv => whnf)
    | ((with_reducible refine WAg_skip ?_ ?_); exact rfl)
    | ((with_reducible refine WR_end ?_ ?_); exact rfl; conv => whnf)
    | ((with_reducible show WR _ _ _ _ _ _ _ _ _); refine WR_go rfl ?_)
    | ((with_reducible show WEach _ _); refine WEach_one rfl ?_; conv => whnf)
    | ((with_reducible show WEach _ _); refine WEach_more rfl ?_ ?_; conv => whnf)
    | ((with_reducible refine Alt.l ?_); conv => whnf)
    | ((with_reducible refine fun (K1 : AX → AState → Prop) hK => ?_); conv => whnf)
    | ((with_reducible show K1 _ _); subst hK; conv => whnf)
    | (with_reducible exact rfl)
    | ((with_reducible refine sp_T ?_); conv => whnf)
    | ((with_reducible refine sp_F ?_); conv => whnf)
    | ((with_reducible refine sp_eT ?_); conv => whnf)
    | ((with_reducible refine sp_e (fun h => ?_) (fun h => ?_)) <;> first | contradiction | (subst h; conv => whnf) | (conv => whnf))
    | ((with_reducible refine sp_n (fun h => ?_) (fun h => ?_)) <;> first | contradiction | (subst h; conv => whnf) | (conv => whnf))
    | ((with_reducible refine sp_nb (fun h => ?_) (fun h => ?_)) <;> first | (exact Bool.noConfusion (Eq.trans (Eq.symm h) (show _ = true by with_reducible assumption))) | (exact Bool.noConfusion (Eq.trans (Eq.symm (show _ = false by with_reducible assumption)) h)) | (conv => whnf))
    | (refine ⟨(rfl : nodupB _ = true), rfl, ?_⟩; conv => whnf)
    | (with_reducible refine bnd2 ?_ ?_)
    | ((with_reducible refine and_of ?_ ?_); conv => whnf)
    | ((with_reducible refine pcI (g := 105) ?_); refine ⟨_, i_ConstTerm (h := ?_) .., rfl, ?_⟩; rotate_right; conv => whnf)
    | ((with_reducible show Exists _); refine Exists.intro _ (And.intro (i_ConstTerm (h := ?_) ..) (And.intro rfl ?_)); rotate_right; conv => whnf)
    | ((with_reducible refine pcI (g := 125) ?_); refine ⟨_, i_makeTerm .., rfl, ?_⟩; rotate_right; conv => whnf)
    | ((with_reducible show Exists _); refine Exists.intro _ (And.intro (i_makeTerm ..) (And.intro rfl ?_)); rotate_right; conv => whnf)
    | ((with_reducible refine zcI (g := 105) ?_); (conv => whnf); refine ⟨_, _, i_ConstTerm (h := ?_) .., rfl, fun res B hRB => ?_⟩; rotate_right; obtain ⟨rfl, rfl⟩ := hRB; conv => whnf)
    | ((with_reducible refine zcI (g := 125) ?_); (conv => whnf); refine ⟨_, _, i_makeTerm .., rfl, fun res B hRB => ?_⟩; rotate_right; obtain ⟨rfl, rfl⟩ := hRB; conv => whnf)
    | ((with_reducible show awpOps _ _ _ _ _ _); conv => whnf)
    | (intro h; conv => whnf))
  all_goals (repeat (clear hK; clear K1))
  all_goals first
    | exact True.intro
    | ((with_reducible show (_ : Int) ≤ _); first | (exact (ins_a hi (by omega)).1) | (exact (ins_b hi (by omega)).1) | omega)
    | ((with_reducible show (_ : Int) < _); first | (have q := ins_a hi (by omega); omega) | (have q := ins_b hi (by omega); omega) | omega)
    | ((with_reducible show wordP _ _ = true); first | exact zero_word (progP_w hp) | exact (prog_mem hp).2.2.1)
    | ((try simp only [V.Term.eta] at *); first
        | exact fr5M ((congrArg Prod.fst (addr_y (p := ⟨w, mem, inn, code⟩) (by with_reducible assumption))).trans (V.Term.eta _).symm)
        | exact frB (congrArg Prod.snd (addr_y (p := ⟨w, mem, inn, code⟩) (by with_reducible assumption)))
        | exact fr5Mn (congrArg Prod.fst (addr_n (p := ⟨w, mem, inn, code⟩) (by with_reducible assumption)))
        | exact frB (congrArg Prod.snd (addr_n (p := ⟨w, mem, inn, code⟩) (by with_reducible assumption)))
        | exact fr5Mn (congrArg Prod.fst (ask_3n (by with_reducible assumption) (by with_reducible assumption)))
        | exact frB (congrArg Prod.snd (ask_3n (by with_reducible assumption) (by with_reducible assumption)))
        | exact frB (asks_3n (by with_reducible assumption) (by with_reducible assumption))
        | exact fr5Mn (congrArg Prod.fst (ask_no (by with_reducible assumption) (by with_reducible assumption) (by with_reducible assumption) (by with_reducible assumption) (by with_reducible assumption)))
        | exact frB (congrArg Prod.snd (ask_no (by with_reducible assumption) (by with_reducible assumption) (by with_reducible assumption) (by with_reducible assumption) (by with_reducible assumption)))
        | exact frB (asks_no (by with_reducible assumption) (by with_reducible assumption) (by with_reducible assumption) (by with_reducible assumption) (by with_reducible assumption))
        | exact fr5M (V.Term.eta _).symm
        | exact frB rfl)
    | skip
set_option maxHeartbeats 4000000 in
set_option maxRecDepth 100000 in
theorem i_cellIs (w mem inn : Int) (code : List V.Ins) (k : Int) (xo xw xn : Int) (xm : ByteArray) (xk : List V.Term) (uo uw un : Int) (um : ByteArray) (uk : List V.Term) (vo vw vn : Int) (vm : ByteArray) (vk : List V.Term) (hk : wordP w k = true) : CallsV Tryz.prog 157 [.agg [.dat (.i w), .dat (.i mem), .dat (.i inn), .dat (.seq .inss code)], .dat (.i k), .agg [.dat (.i xo), .dat (.i xw), .dat (.i xn), .dat (.str xm), .dat (.seq .terms xk)], .agg [.dat (.i uo), .dat (.i uw), .dat (.i un), .dat (.str um), .dat (.seq .terms uk)], .agg [.dat (.i vo), .dat (.i vw), .dat (.i vn), .dat (.str vm), .dat (.seq .terms vk)]] (.tup [datT (cellP ⟨w, mem, inn, code⟩ k ⟨xo, xw, xn, xm, xk⟩ ⟨uo, uw, un, um, uk⟩ ⟨vo, vw, vn, vm, vk⟩).1, .dat (.bool (cellP ⟨w, mem, inn, code⟩ k ⟨xo, xw, xn, xm, xk⟩ ⟨uo, uw, un, um, uk⟩ ⟨vo, vw, vn, vm, vk⟩).2)]) := by
  refine CallsV.of_awp tauOk mixOk Tryz.func157 rfl rfl rfl ?_
  conv => whnf
  repeat' (first
    | ((with_reducible refine fun (K1 : AX → AState → Prop) hK => ?_); (with_reducible refine awp_rg ?_ ?_); exact rfl; conv => whnf)
    | ((with_reducible refine fun (K1 : AX → AState → Prop) hK => ?_); (with_reducible refine awp_dw ?_ ?_); exact rfl; (conv => whnf); simp only [List.nil_append, List.cons_append])
    | ((with_reducible refine WRun_nil ?_); conv => whnf)
    | ((with_reducible refine WRun_go ?_ ?_); exact rfl; conv => whnf)
    | ((with_reducible refine WRun_skip ?_ ?_); exact rfl)
    | ((with_reducible refine WAg_nil ?_))
    | ((with_reducible refine WAg_go ?_ ?_); exact rfl; conv => whnf)
    | ((with_reducible refine WAg_skip ?_ ?_); exact rfl)
    | ((with_reducible refine WR_end ?_ ?_); exact rfl; conv => whnf)
    | ((with_reducible show WR _ _ _ _ _ _ _ _ _); refine WR_go rfl ?_)
    | ((with_reducible show WEach _ _); refine WEach_one rfl ?_; conv => whnf)
    | ((with_reducible show WEach _ _); refine WEach_more rfl ?_ ?_; conv => whnf)
    | ((with_reducible refine Alt.l ?_); conv => whnf)
    | ((with_reducible refine fun (K1 : AX → AState → Prop) hK => ?_); conv => whnf)
    | ((with_reducible show K1 _ _); subst hK; conv => whnf)
    | (with_reducible exact rfl)
    | ((with_reducible refine sp_nb (fun h => ?_) (fun h => ?_)) <;> first | (exact Bool.noConfusion (Eq.trans (Eq.symm h) (show _ = true by with_reducible assumption))) | (exact Bool.noConfusion (Eq.trans (Eq.symm (show _ = false by with_reducible assumption)) h)) | (conv => whnf))
    | (refine ⟨(rfl : nodupB _ = true), rfl, ?_⟩; conv => whnf)
    | ((with_reducible refine and_of ?_ ?_); conv => whnf)
    | ((with_reducible refine pcI (g := 125) ?_); refine ⟨_, i_makeTerm .., rfl, ?_⟩; rotate_right; conv => whnf)
    | ((with_reducible show Exists _); refine Exists.intro _ (And.intro (i_makeTerm ..) (And.intro rfl ?_)); rotate_right; conv => whnf)
    | ((with_reducible refine pcI (g := 105) ?_); refine ⟨_, i_ConstTerm (h := ?_) .., rfl, ?_⟩; rotate_right; conv => whnf)
    | ((with_reducible show Exists _); refine Exists.intro _ (And.intro (i_ConstTerm (h := ?_) ..) (And.intro rfl ?_)); rotate_right; conv => whnf)
    | ((with_reducible refine zcI (g := 125) ?_); (conv => whnf); refine ⟨_, _, i_makeTerm .., rfl, fun res B hRB => ?_⟩; rotate_right; obtain ⟨rfl, rfl⟩ := hRB; conv => whnf)
    | ((with_reducible refine zcI (g := 105) ?_); (conv => whnf); refine ⟨_, _, i_ConstTerm (h := ?_) .., rfl, fun res B hRB => ?_⟩; rotate_right; obtain ⟨rfl, rfl⟩ := hRB; conv => whnf)
    | ((with_reducible show awpOps _ _ _ _ _ _); conv => whnf)
    | (intro h; conv => whnf))
  all_goals (repeat (clear hK; clear K1))
  all_goals first
    | exact True.intro
    | exact hk
    | ((try simp only [V.Term.eta] at *); first
        | exact fr5M ((congrArg Prod.fst (cell_y (p := ⟨w, mem, inn, code⟩) (by with_reducible assumption))).trans (V.Term.eta _).symm)
        | exact frB (congrArg Prod.snd (cell_y (p := ⟨w, mem, inn, code⟩) (by with_reducible assumption)))
        | exact fr5Mn (congrArg Prod.fst (cell_n (p := ⟨w, mem, inn, code⟩) (by with_reducible assumption)))
        | exact frB (congrArg Prod.snd (cell_n (p := ⟨w, mem, inn, code⟩) (by with_reducible assumption))))
    | skip
set_option maxHeartbeats 4000000 in
set_option maxRecDepth 100000 in
theorem i_operated (w mem inn : Int) (code : List V.Ins) (op : Int) (uo uw un : Int) (um : ByteArray) (uk : List V.Term) (vo vw vn : Int) (vm : ByteArray) (vk : List V.Term) (hp : progP ⟨w, mem, inn, code⟩ = true) (ho : 3 ≤ op ∧ op ≤ 16) : CallsV Tryz.prog 138 [.agg [.dat (.i w), .dat (.i mem), .dat (.i inn), .dat (.seq .inss code)], .dat (.i op), .agg [.dat (.i uo), .dat (.i uw), .dat (.i un), .dat (.str um), .dat (.seq .terms uk)], .agg [.dat (.i vo), .dat (.i vw), .dat (.i vn), .dat (.str vm), .dat (.seq .terms vk)]] (.tup [datT (operP ⟨w, mem, inn, code⟩ op ⟨uo, uw, un, um, uk⟩ ⟨vo, vw, vn, vm, vk⟩).1, .dat (.bool (operP ⟨w, mem, inn, code⟩ op ⟨uo, uw, un, um, uk⟩ ⟨vo, vw, vn, vm, vk⟩).2)]) := by
  refine CallsV.of_awp tauOk mixOk Tryz.func138 rfl rfl rfl ?_
  conv => whnf
  repeat' (first
    | ((with_reducible refine fun (K1 : AX → AState → Prop) hK => ?_); (with_reducible refine awp_rg ?_ ?_); exact rfl; conv => whnf)
    | ((with_reducible refine fun (K1 : AX → AState → Prop) hK => ?_); (with_reducible refine awp_dw ?_ ?_); exact rfl; (conv => whnf); simp only [List.nil_append, List.cons_append])
    | ((with_reducible refine WRun_nil ?_); conv => whnf)
    | ((with_reducible refine WRun_go ?_ ?_); exact rfl; conv => whnf)
    | ((with_reducible refine WRun_skip ?_ ?_); exact rfl)
    | ((with_reducible refine WAg_nil ?_))
    | ((with_reducible refine WAg_go ?_ ?_); exact rfl; conv => whnf)
    | ((with_reducible refine WAg_skip ?_ ?_); exact rfl)
    | ((with_reducible refine WR_end ?_ ?_); exact rfl; conv => whnf)
    | ((with_reducible show WR _ _ _ _ _ _ _ _ _); refine WR_go rfl ?_)
    | ((with_reducible show WEach _ _); refine WEach_one rfl ?_; conv => whnf)
    | ((with_reducible show WEach _ _); refine WEach_more rfl ?_ ?_; conv => whnf)
    | ((with_reducible refine Alt.l ?_); conv => whnf)
    | ((with_reducible refine fun (K1 : AX → AState → Prop) hK => ?_); conv => whnf)
    | ((with_reducible show K1 _ _); subst hK; conv => whnf)
    | (with_reducible exact rfl)
    | ((with_reducible refine sp_T ?_); conv => whnf)
    | ((with_reducible refine sp_T' ?_); conv => whnf)
    | ((with_reducible refine sp_F' ?_); conv => whnf)
    | ((with_reducible refine sp_d (fun h => ?_) (fun h => ?_)) <;> first | contradiction | (subst h; conv => whnf) | (conv => whnf))
    | ((with_reducible refine sp_nb' (fun h => ?_) (fun h => ?_)) <;> first | (exact Bool.noConfusion (Eq.trans (Eq.symm h) (show _ = true by with_reducible assumption))) | (exact Bool.noConfusion (Eq.trans (Eq.symm (show _ = false by with_reducible assumption)) h)) | (conv => whnf))
    | (refine ⟨(rfl : nodupB _ = true), rfl, ?_⟩; conv => whnf)
    | (with_reducible refine bnd2' ?_ ?_)
    | ((with_reducible refine and_of ?_ ?_); conv => whnf)
    | ((with_reducible refine pcI (g := 125) ?_); refine ⟨_, i_makeTerm .., rfl, ?_⟩; rotate_right; conv => whnf)
    | ((with_reducible show Exists _); refine Exists.intro _ (And.intro (i_makeTerm ..) (And.intro rfl ?_)); rotate_right; conv => whnf)
    | ((with_reducible refine pcI (g := 155) ?_); refine ⟨_, i_ResultWidth (ho := ?_) (hw := ?_) .., rfl, ?_⟩; rotate_right; conv => whnf)
    | ((with_reducible show Exists _); refine Exists.intro _ (And.intro (i_ResultWidth (ho := ?_) (hw := ?_) ..) (And.intro rfl ?_)); rotate_right; conv => whnf)
    | ((with_reducible refine zcI (g := 125) ?_); (conv => whnf); refine ⟨_, _, i_makeTerm .., rfl, fun res B hRB => ?_⟩; rotate_right; obtain ⟨rfl, rfl⟩ := hRB; conv => whnf)
    | ((with_reducible refine zcI (g := 155) ?_); (conv => whnf); refine ⟨_, _, i_ResultWidth (ho := ?_) (hw := ?_) .., rfl, fun res B hRB => ?_⟩; rotate_right; obtain ⟨rfl, rfl⟩ := hRB; conv => whnf)
    | ((with_reducible show awpOps _ _ _ _ _ _); conv => whnf)
    | (intro h; conv => whnf))
  all_goals (repeat (clear hK; clear K1))
  all_goals first
    | exact True.intro
    | exact progP_w hp
    | ((with_reducible show (_ : Int) ≤ _); omega)
    | ((try simp only [V.Term.eta] at *); first
        | exact fr5M ((congrArg Prod.fst (oper_3 (p := ⟨w, mem, inn, code⟩) (by with_reducible assumption) (by with_reducible assumption))).trans (V.Term.eta _).symm)
        | exact frB (congrArg Prod.snd (oper_3 (p := ⟨w, mem, inn, code⟩) (by with_reducible assumption) (by with_reducible assumption)))
        | exact fr5M ((congrArg Prod.fst (oper_1 (p := ⟨w, mem, inn, code⟩) (by with_reducible assumption))).trans (V.Term.eta _).symm)
        | exact frB ((congrArg Prod.snd (oper_1 (p := ⟨w, mem, inn, code⟩) (by with_reducible assumption))).trans (by with_reducible assumption))
        | exact frB (congrArg Prod.snd (oper_1 (p := ⟨w, mem, inn, code⟩) (by with_reducible assumption)))
        | exact fr5M ((congrArg Prod.fst (oper_2 (p := ⟨w, mem, inn, code⟩) (by with_reducible assumption))).trans (V.Term.eta _).symm)
        | exact frB ((congrArg Prod.snd (oper_2 (p := ⟨w, mem, inn, code⟩) (by with_reducible assumption))).trans (by with_reducible assumption))
        | exact frB (congrArg Prod.snd (oper_2 (p := ⟨w, mem, inn, code⟩) (by with_reducible assumption))))
    | skip
end Vg
