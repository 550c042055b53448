/- Paths: contracts of the program's divide and stepOn. Condition: the path is one under way (PI). -/
import Derived.Test.YtahdmongckgjcaaGreatDoorPathK
namespace Vg
open Go Go.Proofs
set_option maxRecDepth 100000
set_option maxHeartbeats 40000000
section
variable {p : V.Prog} {s : V.Path} {i : V.Ins}
theorem ask_a1 (h1 : (qce p s i).2 = true) (hb : qcp i = false) : AddrOk p s i := qmf h1 (fun e => by rw [hb] at e; cases e)
theorem ask_a2 (h1 : (qce p s i).2 = true) (hn : ¬ ((qce p s i).1.op = 0 ∧ (qce p s i).1.n = 1)) : AddrOk p s i := qmf h1 (fun _ => hn)
theorem dv_1 (h : (qce p s i).2 = false) : qcd p s i = [{ s with code := 9 }] := by
  unfold qcd
  rw [if_pos h]
theorem dv_2 (h1 : (qce p s i).2 = true) (ha : qcp i = true) (hc : (qce p s i).1.op = 0 ∧ (qce p s i).1.n = 1) : qcd p s i = [qdt s i] := by
  unfold qcd
  rw [if_neg (by rw [h1]; decide), if_pos ⟨ha, hc⟩]
structure NoYes (p : V.Prog) (s : V.Path) (i : V.Ins) : Prop where
  h : ¬ (qcp i = true ∧ (qce p s i).1.op = 0 ∧ (qce p s i).1.n = 1)
theorem ny_1 (h : qcp i = false) : NoYes p s i := ⟨fun q => by rw [h] at q; cases q.1⟩
theorem ny_2 (h : ¬ ((qce p s i).1.op = 0 ∧ (qce p s i).1.n = 1)) : NoYes p s i := ⟨fun q => h q.2⟩
theorem dv_3 (h1 : (qce p s i).2 = true) (hn : NoYes p s i) (hf : (qa2 p s i).2 = false) : qcd p s i = [{ s with code := 9 }] := by
  unfold qcd
  rw [if_neg (by rw [h1]; decide), if_neg hn.h, if_pos hf]
theorem dv_4 (h1 : (qce p s i).2 = true) (hn : NoYes p s i) (hf : (qa2 p s i).2 = true) (hr : qcp i = false ∨ (qce p s i).1.op = 0) : qcd p s i = [(qa2 p s i).1] := by
  unfold qcd
  rw [if_neg (by rw [h1]; decide), if_neg hn.h, if_neg (by rw [hf]; decide), if_pos hr]
theorem dv_5 (h1 : (qce p s i).2 = true) (ha : qcp i = true) (h0 : ¬ (qce p s i).1.op = 0) (hf : (qa2 p s i).2 = true) (hb : (mkP 1 1 0 [(qce p s i).1]).2 = false ∨ 60 ≤ s.cond.length ∨ 60 ≤ s.turns.length) : qcd p s i = [{ s with code := 9 }] := by
  unfold qcd
  rw [if_neg (by rw [h1]; decide), if_neg (fun q => h0 q.2.1), if_neg (by rw [hf]; decide), if_neg (fun q => q.elim (fun e => by rw [ha] at e; cases e) h0), if_pos hb]
theorem dv_6 (h1 : (qce p s i).2 = true) (ha : qcp i = true) (h0 : ¬ (qce p s i).1.op = 0) (hf : (qa2 p s i).2 = true) (hb : (mkP 1 1 0 [(qce p s i).1]).2 = true) (hc : ¬ 60 ≤ s.cond.length) (ht : ¬ 60 ≤ s.turns.length) :
    qcd p s i = [{ qdt s i with cond := s.cond ++ [(qce p s i).1], turns := s.turns ++ [1] }, { (qa2 p s i).1 with cond := s.cond ++ [(mkP 1 1 0 [(qce p s i).1]).1], turns := s.turns ++ [0] }] := by
  unfold qcd
  rw [if_neg (by rw [h1]; decide), if_neg (fun q => h0 q.2.1), if_neg (by rw [hf]; decide), if_neg (fun q => q.elim (fun e => by rw [ha] at e; cases e) h0), if_neg (fun q => q.elim (fun e => by rw [hb] at e; cases e) (fun q => q.elim hc ht))]
theorem stp_1 (h : ¬ s.code = 0) : qbk p s = [] := by
  unfold qbk
  rw [if_pos (.inl h)]
theorem stp_2 (h : 400 ≤ s.steps) : qbk p s = [] := by
  unfold qbk
  rw [if_pos (.inr h)]
theorem stp_3 (h : s.code = 0) (h2 : ¬ 400 ≤ s.steps) (h3 : s.pc = p.code.length) : qbk p s = [{ s with code := 2 }] := by
  unfold qbk
  rw [if_neg (by omega), if_pos h3]
theorem stp_4 (h : s.code = 0) (h2 : ¬ 400 ≤ s.steps) (h3 : ¬ s.pc = p.code.length) (hk : ¬ qay p { s with steps := s.steps + 1 } (p.code.getD s.pc.toNat K.inss.dflt) = 0) : qbk p s = [{ s with steps := s.steps + 1, code := qay p { s with steps := s.steps + 1 } (p.code.getD s.pc.toNat K.inss.dflt) }] := by
  unfold qbk
  rw [if_neg (by omega), if_neg h3, if_pos hk]
theorem qn3 (h : s.code = 0) (h2 : ¬ 400 ≤ s.steps) (h3 : ¬ s.pc = p.code.length) (hk : qay p { s with steps := s.steps + 1 } (p.code.getD s.pc.toNat K.inss.dflt) = 0) : qbk p s = qcd p { s with steps := s.steps + 1 } (p.code.getD s.pc.toNat K.inss.dflt) := by
  unfold qbk
  rw [if_neg (by omega), if_neg h3, if_neg (by rw [hk]; decide)]
end
theorem i_divide (w mem inn : Int) (code : List V.Ins) (pc : Int) (rg mm : List V.Term) (sk : List Int) (ic : Int) (ot : List V.Term) (cd sp : Int) (cn : List V.Term) (tr : List Int) (op a b c : Int) (hP : PI ⟨w, mem, inn, code⟩ ⟨pc, rg, mm, sk, ic, ot, cd, sp, cn, tr⟩) (hi : qfs ⟨op, a, b, c⟩ w code.length = true) (hpc : pc < code.length) (hk : qay ⟨w, mem, inn, code⟩ ⟨pc, rg, mm, sk, ic, ot, cd, sp, cn, tr⟩ ⟨op, a, b, c⟩ = 0) : CallsV Tryz.prog 107 [.agg [.dat (.i w), .dat (.i mem), .dat (.i inn), .dat (.seq .inss code)], .agg [.dat (.i pc), .dat (.seq .terms rg), .dat (.seq .terms mm), .dat (.seq .ints sk), .dat (.i ic), .dat (.seq .terms ot), .dat (.i cd), .dat (.i sp), .dat (.seq .terms cn), .dat (.seq .ints tr)], .agg [.dat (.i op), .dat (.i a), .dat (.i b), .dat (.i c)]] (.dat (.seq .paths (qcd ⟨w, mem, inn, code⟩ ⟨pc, rg, mm, sk, ic, ot, cd, sp, cn, tr⟩ ⟨op, a, b, c⟩))) := by
  refine CallsV.of_awp qaf qag Tryz.func107 rfl rfl rfl ?_
  conv => whnf
  repeat' (first | ((with_reducible refine fun (K1 : AX → AState → Prop) hK => ?_); (with_reducible refine qae ?_ ?_); exact rfl; conv => whnf) | ((with_reducible first | refine Alt.l ?_ | refine fun (K1 : AX → AState → Prop) hK => ?_ | (show K1 _ _; subst hK) | refine sp_T ?_ | refine sp_F ?_ | refine sp_T' ?_ | refine sp_F' ?_); conv => whnf) | ((with_reducible first | refine qbe (fun h => ?_) (fun h => ?_) | refine qj3 (fun h => ?_) (fun h => ?_) | refine qcb (fun h => ?_) (fun h => ?_)) <;> first | contradiction | (subst h; conv => whnf) | (conv => whnf)) | ((with_reducible first | refine qbt (fun h => ?_) (fun h => ?_) | refine qcq (fun h => ?_) (fun h => ?_) | refine qdl (fun h => ?_) (fun h => ?_)) <;> first | (exact qa0 h (by with_reducible assumption)) | (exact qa0 (by with_reducible assumption) h) | (conv => whnf)) | (refine ⟨(rfl : qac _ = true), rfl, ?_⟩; conv => whnf) | ((first | ((with_reducible refine pcI (g := 120) ?_); refine ⟨_, i_question (hp := ?_) (hr := ?_) (hi := ?_) .., rfl, ?_⟩) | ((with_reducible refine pcI (g := 121) ?_); refine ⟨_, qbm .., rfl, ?_⟩) | ((with_reducible refine pcI (g := 122) ?_); refine ⟨_, i_named .., rfl, ?_⟩) | ((with_reducible refine pcI (g := 123) ?_); refine ⟨_, i_follow (hP := ?_) (hi := ?_) (hpc := ?_) (hk := ?_) (ha := ?_) .., rfl, ?_⟩) | ((with_reducible refine pcI (g := 124) ?_); refine ⟨_, qa8 .., rfl, ?_⟩) | ((with_reducible refine pcI (g := 126) ?_); refine ⟨_, i_more (h1 := ?_) .., rfl, ?_⟩) | ((with_reducible refine pcI (g := 88) ?_); refine ⟨_, i_with (h1 := ?_) .., rfl, ?_⟩)); rotate_right; conv => whnf) | ((with_reducible refine zcI (g := 125) ?_); (conv => whnf); refine ⟨_, _, qer .., rfl, fun res B hRB => ?_⟩; rotate_right; obtain ⟨rfl, rfl⟩ := hRB; conv => whnf) | (intro h; conv => whnf))
  all_goals (repeat (clear hK; clear K1))
  all_goals (have cl : cn.length ≤ 60 := hP.cl; have tl : tr.length ≤ 60 := hP.tl; (try simp only [V.Term.eta] at *))
  all_goals first | (with_reducible exact hP) | (with_reducible exact hi) | (with_reducible exact hpc) | (with_reducible exact hk) | (with_reducible exact hP.hp) | exact hP.rl | ((with_reducible show _ ≤ _); omega) | ((with_reducible show AddrOk _ _ _); first | exact ask_a1 (by with_reducible assumption) (by with_reducible assumption) | exact ask_a2 (by with_reducible assumption) (by with_reducible assumption)) | (refine congrArg (Dat.seq K.paths) ?_; first | exact dv_1 (by with_reducible assumption) | exact dv_2 (by with_reducible assumption) (by with_reducible assumption) (by with_reducible assumption) | exact dv_3 (by with_reducible assumption) (ny_1 (by with_reducible assumption)) (by with_reducible assumption) | exact dv_3 (by with_reducible assumption) (ny_2 (by with_reducible assumption)) (by with_reducible assumption) | exact dv_4 (by with_reducible assumption) (ny_1 (by with_reducible assumption)) (by with_reducible assumption) (.inl (by with_reducible assumption)) | exact dv_4 (by with_reducible assumption) (ny_2 (by with_reducible assumption)) (by with_reducible assumption) (.inr (by with_reducible assumption)) | exact dv_5 (by with_reducible assumption) (by with_reducible assumption) (by with_reducible assumption) (by with_reducible assumption) (.inl (by with_reducible assumption)) | exact dv_5 (by with_reducible assumption) (by with_reducible assumption) (by with_reducible assumption) (by with_reducible assumption) (.inr (.inl (by show 60 ≤ cn.length; omega))) | exact dv_5 (by with_reducible assumption) (by with_reducible assumption) (by with_reducible assumption) (by with_reducible assumption) (.inr (.inr (by show 60 ≤ tr.length; omega))) | exact dv_6 (by with_reducible assumption) (by with_reducible assumption) (by with_reducible assumption) (by with_reducible assumption) (by with_reducible assumption) (by show ¬ 60 ≤ cn.length; omega) (by show ¬ 60 ≤ tr.length; omega)) | skip
theorem i_stepOn (w mem inn : Int) (code : List V.Ins) (pc : Int) (rg mm : List V.Term) (sk : List Int) (ic : Int) (ot : List V.Term) (cd sp : Int) (cn : List V.Term) (tr : List Int) (hP : PI ⟨w, mem, inn, code⟩ ⟨pc, rg, mm, sk, ic, ot, cd, sp, cn, tr⟩) : CallsV Tryz.prog 87 [.agg [.dat (.i w), .dat (.i mem), .dat (.i inn), .dat (.seq .inss code)], .agg [.dat (.i pc), .dat (.seq .terms rg), .dat (.seq .terms mm), .dat (.seq .ints sk), .dat (.i ic), .dat (.seq .terms ot), .dat (.i cd), .dat (.i sp), .dat (.seq .terms cn), .dat (.seq .ints tr)]] (.dat (.seq .paths (qbk ⟨w, mem, inn, code⟩ ⟨pc, rg, mm, sk, ic, ot, cd, sp, cn, tr⟩))) := by
  refine CallsV.of_awp qaf qag Tryz.func87 rfl rfl rfl ?_
  conv => whnf
  repeat' (first | ((with_reducible refine fun (K1 : AX → AState → Prop) hK => ?_); (with_reducible refine qae ?_ ?_); exact rfl; conv => whnf) | ((with_reducible first | refine Alt.l ?_ | refine fun (K1 : AX → AState → Prop) hK => ?_ | (show K1 _ _; subst hK) | refine sp_T ?_ | refine sp_T' ?_ | refine sp_F' ?_); conv => whnf) | ((with_reducible first | refine qbe (fun h => ?_) (fun h => ?_) | refine qcb (fun h => ?_) (fun h => ?_) | refine qhh (fun h => ?_) (fun h => ?_) | refine sp_n' (fun h => ?_) (fun h => ?_)) <;> first | contradiction | (subst h; conv => whnf) | (conv => whnf)) | (refine ⟨(rfl : qac _ = true), rfl, ?_⟩; conv => whnf) | (with_reducible refine qbn ?_ ?_) | ((with_reducible refine qad ?_ ?_); conv => whnf) | ((first | ((with_reducible refine pcI (g := 106) ?_); refine ⟨_, i_stuck .., rfl, ?_⟩) | ((with_reducible refine pcI (g := 107) ?_); refine ⟨_, i_divide (hP := ?_) (hi := ?_) (hpc := ?_) (hk := ?_) .., rfl, ?_⟩)); rotate_right; conv => whnf) | (intro h; conv => whnf))
  all_goals (repeat (clear hK; clear K1))
  all_goals (have st0 : 0 ≤ sp := hP.st0; have st1 : sp ≤ 400 := hP.st1; have hw : IntKind.i64.wrap (sp + 1) = sp + 1 := qah (by omega) (by omega); (try simp only [hw] at *); (try (have pc0 : 0 ≤ pc := hP.pc0; have pc1 : pc ≤ code.length := hP.pc1)))
  all_goals first | exact congrArg List.length (stp_1 (by with_reducible assumption)) | exact congrArg List.length (stp_2 (by show 400 ≤ sp; omega)) | ((with_reducible show Dat.seq _ _ = _); refine congrArg (Dat.seq K.paths) ?_; first | exact stp_3 rfl (by show ¬ 400 ≤ sp; omega) rfl | exact stp_4 rfl (by show ¬ 400 ≤ sp; omega) (by assumption) (by assumption) | exact qn3 rfl (by show ¬ 400 ≤ sp; omega) (by assumption) (by assumption)) | ((with_reducible show PI _ _); exact hP.steps (by show sp < 400; omega)) | ((with_reducible show qfs _ _ _ = true); exact qlo hP.hp hP.pc0 (by show pc < code.length; omega)) | (with_reducible assumption) | ((with_reducible show (_ : Int) < _); omega) | skip
end Vg
