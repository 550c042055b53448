/- Paths: contracts of the program's divide and stepOn. Condition: the path is one under way (PI). -/
import Derived.Test.YtahdmongckgjcaaGreatDoorPathK
namespace Vg
open Go Go.Proofs
section
variable {p : V.Prog} {s : V.Path} {i : V.Ins}
theorem ask_a1 (h1 : (askP p s i).2 = true) (hb : asksB i = false) : AddrOk p s i := ask_addr h1 (fun e => by rw [hb] at e; cases e)
theorem ask_a2 (h1 : (askP p s i).2 = true) (hn : ¬ ((askP p s i).1.op = 0 ∧ (askP p s i).1.n = 1)) : AddrOk p s i := ask_addr h1 (fun _ => hn)
theorem dv_1 (h : (askP p s i).2 = false) : divideP p s i = [{ s with code := 9 }] := by
  unfold divideP
  rw [if_pos h]
theorem dv_2 (h1 : (askP p s i).2 = true) (ha : asksB i = true) (hc : (askP p s i).1.op = 0 ∧ (askP p s i).1.n = 1) : divideP p s i = [namedP s i] := by
  unfold divideP
  rw [if_neg (by rw [h1]; decide), if_pos ⟨ha, hc⟩]
/-- the question's answer is not yes for good -/
structure NoYes (p : V.Prog) (s : V.Path) (i : V.Ins) : Prop where
  h : ¬ (asksB i = true ∧ (askP p s i).1.op = 0 ∧ (askP p s i).1.n = 1)
theorem ny_1 (h : asksB i = false) : NoYes p s i := ⟨fun q => by rw [h] at q; cases q.1⟩
theorem ny_2 (h : ¬ ((askP p s i).1.op = 0 ∧ (askP p s i).1.n = 1)) : NoYes p s i := ⟨fun q => h q.2⟩
theorem dv_3 (h1 : (askP p s i).2 = true) (hn : NoYes p s i) (hf : (followP p s i).2 = false) : divideP p s i = [{ s with code := 9 }] := by
  unfold divideP
  rw [if_neg (by rw [h1]; decide), if_neg hn.h, if_pos hf]
theorem dv_4 (h1 : (askP p s i).2 = true) (hn : NoYes p s i) (hf : (followP p s i).2 = true) (hr : asksB i = false ∨ (askP p s i).1.op = 0) : divideP p s i = [(followP p s i).1] := by
  unfold divideP
  rw [if_neg (by rw [h1]; decide), if_neg hn.h, if_neg (by rw [hf]; decide), if_pos hr]
theorem dv_5 (h1 : (askP p s i).2 = true) (ha : asksB i = true) (h0 : ¬ (askP p s i).1.op = 0) (hf : (followP p s i).2 = true) (hb : (mkP 1 1 0 [(askP p s i).1]).2 = false ∨ 60 ≤ s.cond.length ∨ 60 ≤ s.turns.length) : divideP p s i = [{ s with code := 9 }] := by
  unfold divideP
  rw [if_neg (by rw [h1]; decide), if_neg (fun q => h0 q.2.1), if_neg (by rw [hf]; decide), if_neg (fun q => q.elim (fun e => by rw [ha] at e; cases e) h0), if_pos hb]
theorem dv_6 (h1 : (askP p s i).2 = true) (ha : asksB i = true) (h0 : ¬ (askP p s i).1.op = 0) (hf : (followP p s i).2 = true) (hb : (mkP 1 1 0 [(askP p s i).1]).2 = true) (hc : ¬ 60 ≤ s.cond.length) (ht : ¬ 60 ≤ s.turns.length) :
    divideP p s i = [{ namedP s i with cond := s.cond ++ [(askP p s i).1], turns := s.turns ++ [1] }, { (followP p s i).1 with cond := s.cond ++ [(mkP 1 1 0 [(askP p s i).1]).1], turns := s.turns ++ [0] }] := by
  unfold divideP
  rw [if_neg (by rw [h1]; decide), if_neg (fun q => h0 q.2.1), if_neg (by rw [hf]; decide), if_neg (fun q => q.elim (fun e => by rw [ha] at e; cases e) h0), if_neg (fun q => q.elim (fun e => by rw [hb] at e; cases e) (fun q => q.elim hc ht))]
theorem stp_1 (h : ¬ s.code = 0) : stepP p s = [] := by
  unfold stepP
  rw [if_pos (.inl h)]
theorem stp_2 (h : 400 ≤ s.steps) : stepP p s = [] := by
  unfold stepP
  rw [if_pos (.inr h)]
theorem stp_3 (h : s.code = 0) (h2 : ¬ 400 ≤ s.steps) (h3 : s.pc = p.code.length) : stepP p s = [{ s with code := 2 }] := by
  unfold stepP
  rw [if_neg (by omega), if_pos h3]
theorem stp_4 (h : s.code = 0) (h2 : ¬ 400 ≤ s.steps) (h3 : ¬ s.pc = p.code.length) (hk : ¬ stuckP p { s with steps := s.steps + 1 } (p.code.getD s.pc.toNat K.inss.dflt) = 0) : stepP p s = [{ s with steps := s.steps + 1, code := stuckP p { s with steps := s.steps + 1 } (p.code.getD s.pc.toNat K.inss.dflt) }] := by
  unfold stepP
  rw [if_neg (by omega), if_neg h3, if_pos hk]
theorem stp_5 (h : s.code = 0) (h2 : ¬ 400 ≤ s.steps) (h3 : ¬ s.pc = p.code.length) (hk : stuckP p { s with steps := s.steps + 1 } (p.code.getD s.pc.toNat K.inss.dflt) = 0) : stepP p s = divideP p { s with steps := s.steps + 1 } (p.code.getD s.pc.toNat K.inss.dflt) := by
  unfold stepP
  rw [if_neg (by omega), if_neg h3, if_neg (by rw [hk]; decide)]
end
set_option maxHeartbeats 8000000 in
set_option maxRecDepth 100000 in
theorem i_divide (w mem inn : Int) (code : List V.Ins) (pc : Int) (rg mm : List V.Term) (sk : List Int) (ic : Int) (ot : List V.Term) (cd sp : Int) (cn : List V.Term) (tr : List Int) (op a b c : Int) (hP : PI ⟨w, mem, inn, code⟩ ⟨pc, rg, mm, sk, ic, ot, cd, sp, cn, tr⟩) (hi : insP ⟨op, a, b, c⟩ w code.length = true) (hpc : pc < code.length) (hk : stuckP ⟨w, mem, inn, code⟩ ⟨pc, rg, mm, sk, ic, ot, cd, sp, cn, tr⟩ ⟨op, a, b, c⟩ = 0) : CallsV Tryz.prog 107 [.agg [.dat (.i w), .dat (.i mem), .dat (.i inn), .dat (.seq .inss code)], .agg [.dat (.i pc), .dat (.seq .terms rg), .dat (.seq .terms mm), .dat (.seq .ints sk), .dat (.i ic), .dat (.seq .terms ot), .dat (.i cd), .dat (.i sp), .dat (.seq .terms cn), .dat (.seq .ints tr)], .agg [.dat (.i op), .dat (.i a), .dat (.i b), .dat (.i c)]] (.dat (.seq .paths (divideP ⟨w, mem, inn, code⟩ ⟨pc, rg, mm, sk, ic, ot, cd, sp, cn, tr⟩ ⟨op, a, b, c⟩))) := by
  refine CallsV.of_awp tauOk mixOk Tryz.func107 rfl rfl rfl ?_
  conv => whnf
  repeat' (first
    | ((with_reducible refine fun (K1 : AX → AState → Prop) hK => ?_); (with_reducible refine awp_rg ?_ ?_); exact rfl; conv => whnf)
    | ((with_reducible refine Alt.l ?_); conv => whnf)
    | ((with_reducible refine fun (K1 : AX → AState → Prop) hK => ?_); conv => whnf)
    | ((with_reducible show K1 _ _); subst hK; conv => whnf)
    | (with_reducible exact rfl)
    | ((with_reducible refine sp_T ?_); conv => whnf)
    | ((with_reducible refine sp_F ?_); conv => whnf)
    | ((with_reducible refine sp_T' ?_); conv => whnf)
    | ((with_reducible refine sp_F' ?_); conv => whnf)
    | ((with_reducible refine sp_d (fun h => ?_) (fun h => ?_)) <;> first | contradiction | (subst h; conv => whnf) | (conv => whnf))
    | ((with_reducible refine sp_d' (fun h => ?_) (fun h => ?_)) <;> first | contradiction | (subst h; conv => whnf) | (conv => whnf))
    | ((with_reducible refine sp_e (fun h => ?_) (fun h => ?_)) <;> first | contradiction | (subst h; conv => whnf) | (conv => whnf))
    | ((with_reducible refine sp_nb (fun h => ?_) (fun h => ?_)) <;> first | (exact Bool.noConfusion (Eq.trans (Eq.symm h) (show _ = true by with_reducible assumption))) | (exact Bool.noConfusion (Eq.trans (Eq.symm (show _ = false by with_reducible assumption)) h)) | (conv => whnf))
    | ((with_reducible refine sp_nb' (fun h => ?_) (fun h => ?_)) <;> first | (exact Bool.noConfusion (Eq.trans (Eq.symm h) (show _ = true by with_reducible assumption))) | (exact Bool.noConfusion (Eq.trans (Eq.symm (show _ = false by with_reducible assumption)) h)) | (conv => whnf))
    | ((with_reducible refine sp_b (fun h => ?_) (fun h => ?_)) <;> first | (exact Bool.noConfusion (Eq.trans (Eq.symm h) (show _ = true by with_reducible assumption))) | (exact Bool.noConfusion (Eq.trans (Eq.symm (show _ = false by with_reducible assumption)) h)) | (conv => whnf))
    | (refine ⟨(rfl : nodupB _ = true), rfl, ?_⟩; conv => whnf)
    | ((with_reducible refine pcI (g := 120) ?_); refine ⟨_, i_question (hp := ?_) (hr := ?_) (hi := ?_) .., rfl, ?_⟩; rotate_right; conv => whnf)
    | ((with_reducible show Exists _); refine Exists.intro _ (And.intro (i_question (hp := ?_) (hr := ?_) (hi := ?_) ..) (And.intro rfl ?_)); rotate_right; conv => whnf)
    | ((with_reducible refine pcI (g := 121) ?_); refine ⟨_, i_constIs .., rfl, ?_⟩; rotate_right; conv => whnf)
    | ((with_reducible show Exists _); refine Exists.intro _ (And.intro (i_constIs ..) (And.intro rfl ?_)); rotate_right; conv => whnf)
    | ((with_reducible refine pcI (g := 122) ?_); refine ⟨_, i_named .., rfl, ?_⟩; rotate_right; conv => whnf)
    | ((with_reducible show Exists _); refine Exists.intro _ (And.intro (i_named ..) (And.intro rfl ?_)); rotate_right; conv => whnf)
    | ((with_reducible refine pcI (g := 123) ?_); refine ⟨_, i_follow (hP := ?_) (hi := ?_) (hpc := ?_) (hk := ?_) (ha := ?_) .., rfl, ?_⟩; rotate_right; conv => whnf)
    | ((with_reducible show Exists _); refine Exists.intro _ (And.intro (i_follow (hP := ?_) (hi := ?_) (hpc := ?_) (hk := ?_) (ha := ?_) ..) (And.intro rfl ?_)); rotate_right; conv => whnf)
    | ((with_reducible refine pcI (g := 124) ?_); refine ⟨_, i_isConst .., rfl, ?_⟩; rotate_right; conv => whnf)
    | ((with_reducible show Exists _); refine Exists.intro _ (And.intro (i_isConst ..) (And.intro rfl ?_)); rotate_right; conv => whnf)
    | ((with_reducible refine pcI (g := 125) ?_); refine ⟨_, i_makeTerm .., rfl, ?_⟩; rotate_right; conv => whnf)
    | ((with_reducible show Exists _); refine Exists.intro _ (And.intro (i_makeTerm ..) (And.intro rfl ?_)); rotate_right; conv => whnf)
    | ((with_reducible refine pcI (g := 126) ?_); refine ⟨_, i_more (h1 := ?_) .., rfl, ?_⟩; rotate_right; conv => whnf)
    | ((with_reducible show Exists _); refine Exists.intro _ (And.intro (i_more (h1 := ?_) ..) (And.intro rfl ?_)); rotate_right; conv => whnf)
    | ((with_reducible refine pcI (g := 88) ?_); refine ⟨_, i_with (h1 := ?_) .., rfl, ?_⟩; rotate_right; conv => whnf)
    | ((with_reducible show Exists _); refine Exists.intro _ (And.intro (i_with (h1 := ?_) ..) (And.intro rfl ?_)); rotate_right; conv => whnf)
    | ((with_reducible refine zcI (g := 120) ?_); (conv => whnf); refine ⟨_, _, i_question (hp := ?_) (hr := ?_) (hi := ?_) .., rfl, fun res B hRB => ?_⟩; rotate_right; obtain ⟨rfl, rfl⟩ := hRB; conv => whnf)
    | ((with_reducible refine zcI (g := 121) ?_); (conv => whnf); refine ⟨_, _, i_constIs .., rfl, fun res B hRB => ?_⟩; rotate_right; obtain ⟨rfl, rfl⟩ := hRB; conv => whnf)
    | ((with_reducible refine zcI (g := 122) ?_); (conv => whnf); refine ⟨_, _, i_named .., rfl, fun res B hRB => ?_⟩; rotate_right; obtain ⟨rfl, rfl⟩ := hRB; conv => whnf)
    | ((with_reducible refine zcI (g := 123) ?_); (conv => whnf); refine ⟨_, _, i_follow (hP := ?_) (hi := ?_) (hpc := ?_) (hk := ?_) (ha := ?_) .., rfl, fun res B hRB => ?_⟩; rotate_right; obtain ⟨rfl, rfl⟩ := hRB; conv => whnf)
    | ((with_reducible refine zcI (g := 124) ?_); (conv => whnf); refine ⟨_, _, i_isConst .., rfl, fun res B hRB => ?_⟩; rotate_right; obtain ⟨rfl, rfl⟩ := hRB; conv => whnf)
    | ((with_reducible refine zcI (g := 125) ?_); (conv => whnf); refine ⟨_, _, i_makeTerm .., rfl, fun res B hRB => ?_⟩; rotate_right; obtain ⟨rfl, rfl⟩ := hRB; conv => whnf)
    | ((with_reducible refine zcI (g := 126) ?_); (conv => whnf); refine ⟨_, _, i_more (h1 := ?_) .., rfl, fun res B hRB => ?_⟩; rotate_right; obtain ⟨rfl, rfl⟩ := hRB; conv => whnf)
    | ((with_reducible refine zcI (g := 88) ?_); (conv => whnf); refine ⟨_, _, i_with (h1 := ?_) .., rfl, fun res B hRB => ?_⟩; rotate_right; obtain ⟨rfl, rfl⟩ := hRB; conv => whnf)
    | ((with_reducible show awpOps _ _ _ _ _ _); conv => whnf)
    | (intro h; conv => whnf))
  all_goals (repeat (clear hK; clear K1))
  all_goals (have cl : cn.length ≤ 60 := hP.cl; have tl : tr.length ≤ 60 := hP.tl; (try simp only [V.Term.eta] at *))
  all_goals first
    | exact True.intro
    | (with_reducible exact hP)
    | (with_reducible exact hi)
    | (with_reducible exact hpc)
    | (with_reducible exact hk)
    | (with_reducible exact hP.hp)
    | exact hP.rl
    | ((with_reducible show _ ≤ _); omega)
    | ((with_reducible show AddrOk _ _ _); first | exact ask_a1 (by with_reducible assumption) (by with_reducible assumption) | exact ask_a2 (by with_reducible assumption) (by with_reducible assumption))
    | (refine congrArg (Dat.seq K.paths) ?_; first
        | exact dv_1 (by with_reducible assumption)
        | exact dv_2 (by with_reducible assumption) (by with_reducible assumption) (by with_reducible assumption)
        | exact dv_3 (by with_reducible assumption) (ny_1 (by with_reducible assumption)) (by with_reducible assumption)
        | exact dv_3 (by with_reducible assumption) (ny_2 (by with_reducible assumption)) (by with_reducible assumption)
        | exact dv_4 (by with_reducible assumption) (ny_1 (by with_reducible assumption)) (by with_reducible assumption) (.inl (by with_reducible assumption))
        | exact dv_4 (by with_reducible assumption) (ny_2 (by with_reducible assumption)) (by with_reducible assumption) (.inr (by with_reducible assumption))
        | exact dv_5 (by with_reducible assumption) (by with_reducible assumption) (by with_reducible assumption) (by with_reducible assumption) (.inl (by with_reducible assumption))
        | exact dv_5 (by with_reducible assumption) (by with_reducible assumption) (by with_reducible assumption) (by with_reducible assumption) (.inr (.inl (by show 60 ≤ cn.length; omega)))
        | exact dv_5 (by with_reducible assumption) (by with_reducible assumption) (by with_reducible assumption) (by with_reducible assumption) (.inr (.inr (by show 60 ≤ tr.length; omega)))
        | exact dv_6 (by with_reducible assumption) (by with_reducible assumption) (by with_reducible assumption) (by with_reducible assumption) (by with_reducible assumption) (by show ¬ 60 ≤ cn.length; omega) (by show ¬ 60 ≤ tr.length; omega))
    | skip
set_option maxHeartbeats 8000000 in
set_option maxRecDepth 100000 in
theorem i_stepOn (w mem inn : Int) (code : List V.Ins) (pc : Int) (rg mm : List V.Term) (sk : List Int) (ic : Int) (ot : List V.Term) (cd sp : Int) (cn : List V.Term) (tr : List Int) (hP : PI ⟨w, mem, inn, code⟩ ⟨pc, rg, mm, sk, ic, ot, cd, sp, cn, tr⟩) : CallsV Tryz.prog 87 [.agg [.dat (.i w), .dat (.i mem), .dat (.i inn), .dat (.seq .inss code)], .agg [.dat (.i pc), .dat (.seq .terms rg), .dat (.seq .terms mm), .dat (.seq .ints sk), .dat (.i ic), .dat (.seq .terms ot), .dat (.i cd), .dat (.i sp), .dat (.seq .terms cn), .dat (.seq .ints tr)]] (.dat (.seq .paths (stepP ⟨w, mem, inn, code⟩ ⟨pc, rg, mm, sk, ic, ot, cd, sp, cn, tr⟩))) := by
  refine CallsV.of_awp tauOk mixOk Tryz.func87 rfl rfl rfl ?_
  conv => whnf
  repeat' (first
    | ((with_reducible refine fun (K1 : AX → AState → Prop) hK => ?_); (with_reducible refine awp_rg ?_ ?_); exact rfl; conv => whnf)
    | ((with_reducible refine Alt.l ?_); conv => whnf)
    | ((with_reducible refine fun (K1 : AX → AState → Prop) hK => ?_); conv => whnf)
    | ((with_reducible show K1 _ _); subst hK; conv => whnf)
    | (with_reducible exact rfl)
    | ((with_reducible refine sp_T ?_); conv => whnf)
    | ((with_reducible refine sp_T' ?_); conv => whnf)
    | ((with_reducible refine sp_F' ?_); conv => whnf)
    | ((with_reducible refine sp_d (fun h => ?_) (fun h => ?_)) <;> first | contradiction | (subst h; conv => whnf) | (conv => whnf))
    | ((with_reducible refine sp_e (fun h => ?_) (fun h => ?_)) <;> first | contradiction | (subst h; conv => whnf) | (conv => whnf))
    | ((with_reducible refine sp_n (fun h => ?_) (fun h => ?_)) <;> first | contradiction | (subst h; conv => whnf) | (conv => whnf))
    | ((with_reducible refine sp_n' (fun h => ?_) (fun h => ?_)) <;> first | contradiction | (subst h; conv => whnf) | (conv => whnf))
    | (refine ⟨(rfl : nodupB _ = true), rfl, ?_⟩; conv => whnf)
    | (with_reducible refine bnd2 ?_ ?_)
    | ((with_reducible refine and_of ?_ ?_); conv => whnf)
    | ((with_reducible refine pcI (g := 106) ?_); refine ⟨_, i_stuck .., rfl, ?_⟩; rotate_right; conv => whnf)
    | ((with_reducible show Exists _); refine Exists.intro _ (And.intro (i_stuck ..) (And.intro rfl ?_)); rotate_right; conv => whnf)
    | ((with_reducible refine pcI (g := 107) ?_); refine ⟨_, i_divide (hP := ?_) (hi := ?_) (hpc := ?_) (hk := ?_) .., rfl, ?_⟩; rotate_right; conv => whnf)
    | ((with_reducible show Exists _); refine Exists.intro _ (And.intro (i_divide (hP := ?_) (hi := ?_) (hpc := ?_) (hk := ?_) ..) (And.intro rfl ?_)); rotate_right; conv => whnf)
    | ((with_reducible show awpOps _ _ _ _ _ _); conv => whnf)
    | (intro h; conv => whnf))
  all_goals (repeat (clear hK; clear K1))
  all_goals (have st0 : 0 ≤ sp := hP.st0; have st1 : sp ≤ 400 := hP.st1; have hw : IntKind.i64.wrap (sp + 1) = sp + 1 := wrap_id (by omega) (by omega); (try simp only [hw] at *); (try (have pc0 : 0 ≤ pc := hP.pc0; have pc1 : pc ≤ code.length := hP.pc1)))
  all_goals first
    | exact True.intro
    | exact congrArg List.length (stp_1 (by with_reducible assumption))
    | exact congrArg List.length (stp_2 (by show 400 ≤ sp; omega))
    | ((with_reducible show Dat.seq _ _ = _); refine congrArg (Dat.seq K.paths) ?_; first
        | exact stp_3 rfl (by show ¬ 400 ≤ sp; omega) rfl
        | exact stp_4 rfl (by show ¬ 400 ≤ sp; omega) (by assumption) (by assumption)
        | exact stp_5 rfl (by show ¬ 400 ≤ sp; omega) (by assumption) (by assumption))
    | ((with_reducible show PI _ _); exact hP.steps (by show sp < 400; omega))
    | ((with_reducible show insP _ _ _ = true); exact prog_ins hP.hp hP.pc0 (by show pc < code.length; omega))
    | (with_reducible assumption)
    | ((with_reducible show (_ : Int) ≤ _); omega)
    | ((with_reducible show (_ : Int) < _); omega)
    | skip
end Vg
