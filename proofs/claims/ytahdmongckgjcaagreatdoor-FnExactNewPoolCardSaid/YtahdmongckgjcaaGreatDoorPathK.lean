/- Paths: contracts of the program's follow, divide, step. Condition: the path is one under way (PI), the instruction is the program's. -/
import Derived.Test.YtahdmongckgjcaaGreatDoorPathJ
namespace Vg
open Go Go.Proofs
section
variable {p : V.Prog} {s : V.Path} {a b c : Int}
theorem ins_c {op w n : Int} (h : insP ⟨op, a, b, c⟩ w n = true) (ho : op = 3) : 3 ≤ c ∧ c ≤ 16 := by
  subst ho
  simp [insP, regP, inP] at h
  omega
theorem stk5 (h : stuckP p s ⟨5, a, b, c⟩ = 0) : s.inn < p.inn := by
  unfold stuckP at h
  by_cases q : p.inn ≤ s.inn
  · rw [if_pos ⟨rfl, q⟩] at h; cases h
  · omega
theorem stk12 (h : stuckP p s ⟨12, a, b, c⟩ = 0) : 0 < s.stack.length := by
  unfold stuckP at h
  rw [if_neg (fun q => absurd (show (12 : Int) = 5 from q.1) (by decide)), if_neg (fun q => absurd (show (12 : Int) = 6 from q.1) (by decide)), if_neg (fun q => absurd (show (12 : Int) = 11 from q.1) (by decide))] at h
  by_cases q : (s.stack.length : Int) = 0
  · rw [if_pos ⟨rfl, q⟩] at h; cases h
  · omega
theorem fol_else {op : Int} (h1 : ¬ op = 1) (h2 : ¬ op = 2) (h3 : ¬ op = 3) (h4 : ¬ op = 4) (h5 : ¬ op = 5) (h6 : ¬ op = 6) (h7 : ¬ op = 7) (h8 : ¬ op = 8) (h9 : ¬ op = 9) (h11 : ¬ op = 11) (h12 : ¬ op = 12) (h14 : ¬ op = 14) :
    followP p s ⟨op, a, b, c⟩ = ({ s with pc := s.pc + 1 }, true) := by
  unfold followP
  rw [if_neg h1, if_neg h2, if_neg h3, if_neg h4, if_neg h5, if_neg h6, if_neg h7, if_neg h8, if_neg h9, if_neg h11, if_neg h12, if_neg h14]
end
set_option maxHeartbeats 8000000 in
set_option maxRecDepth 100000 in
theorem i_follow (w mem inn : Int) (code : List V.Ins) (pc : Int) (rg mm : List V.Term) (sk : List Int) (ic : Int) (ot : List V.Term) (cd sp : Int) (cn : List V.Term) (tr : List Int) (op a b c : Int) (hP : PI ⟨w, mem, inn, code⟩ ⟨pc, rg, mm, sk, ic, ot, cd, sp, cn, tr⟩) (hi : insP ⟨op, a, b, c⟩ w code.length = true) (hpc : pc < code.length) (hk : stuckP ⟨w, mem, inn, code⟩ ⟨pc, rg, mm, sk, ic, ot, cd, sp, cn, tr⟩ ⟨op, a, b, c⟩ = 0) (ha : AddrOk ⟨w, mem, inn, code⟩ ⟨pc, rg, mm, sk, ic, ot, cd, sp, cn, tr⟩ ⟨op, a, b, c⟩) : CallsV Tryz.prog 123 [.agg [.dat (.i w), .dat (.i mem), .dat (.i inn), .dat (.seq .inss code)], .agg [.dat (.i pc), .dat (.seq .terms rg), .dat (.seq .terms mm), .dat (.seq .ints sk), .dat (.i ic), .dat (.seq .terms ot), .dat (.i cd), .dat (.i sp), .dat (.seq .terms cn), .dat (.seq .ints tr)], .agg [.dat (.i op), .dat (.i a), .dat (.i b), .dat (.i c)]] (.tup [datPt (followP ⟨w, mem, inn, code⟩ ⟨pc, rg, mm, sk, ic, ot, cd, sp, cn, tr⟩ ⟨op, a, b, c⟩).1, .dat (.bool (followP ⟨w, mem, inn, code⟩ ⟨pc, rg, mm, sk, ic, ot, cd, sp, cn, tr⟩ ⟨op, a, b, c⟩).2)]) := by
  refine CallsV.of_awp tauOk mixOk Tryz.func123 rfl rfl rfl ?_
  conv => whnf
  repeat' (first
    | ((with_reducible refine fun (K1 : AX → AState → Prop) hK => ?_); (with_reducible refine awp_rg ?_ ?_); exact rfl; conv => whnf)
    | ((with_reducible refine fun (K1 : AX → AState → Prop) hK => ?_); (with_reducible refine awp_dw ?_ ?_); exact rfl; (conv => whnf); simp only [List.nil_append, List.cons_append])
    | ((with_reducible refine WRun_nil ?_); conv => whnf)
    | ((with_reducible refine WRun_go ?_ ?_); exact rfl; conv => whnf)
    | ((with_reducible refine WRun_skip ?_ ?_); exact rfl)
    | ((with_reducible refine WAg_nil ?_))
    | ((with_reducible refine WAg_go ?_ ?_); exact rfl; conv => whnf)
    | ((with_reducible refine WAg_skip ?_ ?_); exact rfl)
    | ((with_reducible refine WR_end ?_ ?_); exact rfl; conv => whnf)
    | ((with_reducible show WR _ _ _ _ _ _ _ _ _); refine WR_go rfl ?_)
    | ((with_reducible show WEach _ _); refine WEach_one rfl ?_; conv => whnf)
    | ((with_reducible refine Alt.l ?_); conv => whnf)
    | ((with_reducible refine fun (K1 : AX → AState → Prop) hK => ?_); conv => whnf)
    | ((with_reducible show K1 _ _); subst hK; conv => whnf)
    | (with_reducible exact rfl)
    | ((with_reducible refine sp_e (fun h => ?_) (fun h => ?_)) <;> first | contradiction | (subst h; conv => whnf) | (conv => whnf))
    | (refine ⟨(rfl : nodupB _ = true), rfl, ?_⟩; conv => whnf)
    | (with_reducible refine bnd2 ?_ ?_)
    | (with_reducible refine bnd2' ?_ ?_)
    | ((with_reducible refine and_of ?_ ?_); conv => whnf)
    | ((with_reducible refine pcI (g := 137) ?_); refine ⟨_, i_put (h1 := ?_) (hk := ?_) .., rfl, ?_⟩; rotate_right; conv => whnf)
    | ((with_reducible show Exists _); refine Exists.intro _ (And.intro (i_put (h1 := ?_) (hk := ?_) ..) (And.intro rfl ?_)); rotate_right; conv => whnf)
    | ((with_reducible refine pcI (g := 105) ?_); refine ⟨_, i_ConstTerm (h := ?_) .., rfl, ?_⟩; rotate_right; conv => whnf)
    | ((with_reducible show Exists _); refine Exists.intro _ (And.intro (i_ConstTerm (h := ?_) ..) (And.intro rfl ?_)); rotate_right; conv => whnf)
    | ((with_reducible refine pcI (g := 138) ?_); refine ⟨_, i_operated (hp := ?_) (ho := ?_) .., rfl, ?_⟩; rotate_right; conv => whnf)
    | ((with_reducible show Exists _); refine Exists.intro _ (And.intro (i_operated (hp := ?_) (ho := ?_) ..) (And.intro rfl ?_)); rotate_right; conv => whnf)
    | ((with_reducible refine pcI (g := 125) ?_); refine ⟨_, i_makeTerm .., rfl, ?_⟩; rotate_right; conv => whnf)
    | ((with_reducible show Exists _); refine Exists.intro _ (And.intro (i_makeTerm ..) (And.intro rfl ?_)); rotate_right; conv => whnf)
    | ((with_reducible refine pcI (g := 139) ?_); refine ⟨_, i_VarTerm (hw := ?_) (hs := ?_) .., rfl, ?_⟩; rotate_right; conv => whnf)
    | ((with_reducible show Exists _); refine Exists.intro _ (And.intro (i_VarTerm (hw := ?_) (hs := ?_) ..) (And.intro rfl ?_)); rotate_right; conv => whnf)
    | ((with_reducible refine pcI (g := 65) ?_); refine ⟨_, i_FormatInt (h0 := ?_) (h1 := ?_) .., rfl, ?_⟩; rotate_right; conv => whnf)
    | ((with_reducible show Exists _); refine Exists.intro _ (And.intro (i_FormatInt (h0 := ?_) (h1 := ?_) ..) (And.intro rfl ?_)); rotate_right; conv => whnf)
    | ((with_reducible refine pcI (g := 126) ?_); refine ⟨_, i_more (h1 := ?_) .., rfl, ?_⟩; rotate_right; conv => whnf)
    | ((with_reducible show Exists _); refine Exists.intro _ (And.intro (i_more (h1 := ?_) ..) (And.intro rfl ?_)); rotate_right; conv => whnf)
    | ((with_reducible refine pcI (g := 140) ?_); refine ⟨_, i_loaded (hp := ?_) (hm := ?_) (hx := ?_) .., rfl, ?_⟩; rotate_right; conv => whnf)
    | ((with_reducible show Exists _); refine Exists.intro _ (And.intro (i_loaded (hp := ?_) (hm := ?_) (hx := ?_) ..) (And.intro rfl ?_)); rotate_right; conv => whnf)
    | ((with_reducible refine pcI (g := 141) ?_); refine ⟨_, i_stored (hp := ?_) (hm := ?_) (hx := ?_) .., rfl, ?_⟩; rotate_right; conv => whnf)
    | ((with_reducible show Exists _); refine Exists.intro _ (And.intro (i_stored (hp := ?_) (hm := ?_) (hx := ?_) ..) (And.intro rfl ?_)); rotate_right; conv => whnf)
    | ((with_reducible refine pcI (g := 88) ?_); refine ⟨_, i_with (h1 := ?_) .., rfl, ?_⟩; rotate_right; conv => whnf)
    | ((with_reducible show Exists _); refine Exists.intro _ (And.intro (i_with (h1 := ?_) ..) (And.intro rfl ?_)); rotate_right; conv => whnf)
    | ((with_reducible refine fcI (g := 108) ?_); refine ⟨_, _, i_CloneN (h1 := ?_) .., rfl, fun res B hRB => ?_⟩; rotate_right; obtain ⟨rfl, rfl⟩ := hRB; conv => whnf)
    | ((with_reducible refine zcI (g := 137) ?_); (conv => whnf); refine ⟨_, _, i_put (h1 := ?_) (hk := ?_) .., rfl, fun res B hRB => ?_⟩; rotate_right; obtain ⟨rfl, rfl⟩ := hRB; conv => whnf)
    | ((with_reducible refine zcI (g := 105) ?_); (conv => whnf); refine ⟨_, _, i_ConstTerm (h := ?_) .., rfl, fun res B hRB => ?_⟩; rotate_right; obtain ⟨rfl, rfl⟩ := hRB; conv => whnf)
    | ((with_reducible refine zcI (g := 138) ?_); (conv => whnf); refine ⟨_, _, i_operated (hp := ?_) (ho := ?_) .., rfl, fun res B hRB => ?_⟩; rotate_right; obtain ⟨rfl, rfl⟩ := hRB; conv => whnf)
    | ((with_reducible refine zcI (g := 125) ?_); (conv => whnf); refine ⟨_, _, i_makeTerm .., rfl, fun res B hRB => ?_⟩; rotate_right; obtain ⟨rfl, rfl⟩ := hRB; conv => whnf)
    | ((with_reducible refine zcI (g := 139) ?_); (conv => whnf); refine ⟨_, _, i_VarTerm (hw := ?_) (hs := ?_) .., rfl, fun res B hRB => ?_⟩; rotate_right; obtain ⟨rfl, rfl⟩ := hRB; conv => whnf)
    | ((with_reducible refine zcI (g := 65) ?_); (conv => whnf); refine ⟨_, _, i_FormatInt (h0 := ?_) (h1 := ?_) .., rfl, fun res B hRB => ?_⟩; rotate_right; obtain ⟨rfl, rfl⟩ := hRB; conv => whnf)
    | ((with_reducible refine zcI (g := 126) ?_); (conv => whnf); refine ⟨_, _, i_more (h1 := ?_) .., rfl, fun res B hRB => ?_⟩; rotate_right; obtain ⟨rfl, rfl⟩ := hRB; conv => whnf)
    | ((with_reducible refine zcI (g := 140) ?_); (conv => whnf); refine ⟨_, _, i_loaded (hp := ?_) (hm := ?_) (hx := ?_) .., rfl, fun res B hRB => ?_⟩; rotate_right; obtain ⟨rfl, rfl⟩ := hRB; conv => whnf)
    | ((with_reducible refine zcI (g := 141) ?_); (conv => whnf); refine ⟨_, _, i_stored (hp := ?_) (hm := ?_) (hx := ?_) .., rfl, fun res B hRB => ?_⟩; rotate_right; obtain ⟨rfl, rfl⟩ := hRB; conv => whnf)
    | ((with_reducible refine zcI (g := 88) ?_); (conv => whnf); refine ⟨_, _, i_with (h1 := ?_) .., rfl, fun res B hRB => ?_⟩; rotate_right; obtain ⟨rfl, rfl⟩ := hRB; conv => whnf)
    | ((with_reducible refine zcI (g := 108) ?_); (conv => whnf); refine ⟨_, _, i_CloneN (h1 := ?_) .., rfl, fun res B hRB => ?_⟩; rotate_right; obtain ⟨rfl, rfl⟩ := hRB; conv => whnf)
    | ((with_reducible show awpOps _ _ _ _ _ _); conv => whnf)
    | (intro h; conv => whnf))
  all_goals (repeat (clear hK; clear K1))
  all_goals (have rl : rg.length = 4 := hP.rl; have ml : (mm.length : Int) = mem := hP.ml; have sl : sk.length ≤ 3 := hP.sl; have ol : ot.length ≤ 6 := hP.ol; have pc0 : 0 ≤ pc := hP.pc0; have i0 : 0 ≤ ic := hP.i0; have i1 : ic ≤ inn := hP.i1; have hM := prog_mem hP.hp; dsimp only at hM; have hw1 : IntKind.i64.wrap (pc + 1) = pc + 1 := wrap_id (by omega) (by omega); have hw2 : IntKind.i64.wrap (ic + 1) = ic + 1 := wrap_id (by omega) (by omega); have hw3 : IntKind.i64.wrap ((sk.length : Int) - 1) = (sk.length : Int) - 1 := wrap_id (by omega) (by omega); (try simp only [V.Term.eta]); (try rw [hw1]); (try rw [hw2]); (try rw [hw3]); (try rw [show ((sk.length : Int) - 1).toNat = sk.length - 1 by omega]))
  all_goals first
    | exact True.intro
    | ((with_reducible show frzM _ (datPt _) _); first
        | exact fr10M rfl
        | exact ⟨rfl, rfl, rfl, rfl, rfl, rfl, rfl, rfl, rfl, rfl, True.intro⟩
        | exact fr10M (congrArg Prod.fst (fol_else (by with_reducible assumption) (by with_reducible assumption) (by with_reducible assumption) (by with_reducible assumption) (by with_reducible assumption) (by with_reducible assumption) (by with_reducible assumption) (by with_reducible assumption) (by with_reducible assumption) (by with_reducible assumption) (by with_reducible assumption) (by with_reducible assumption) )))
    | ((with_reducible show frzM _ (.dat (.bool _)) _); first
        | exact frB rfl
        | exact frB (congrArg Prod.snd (fol_else (by with_reducible assumption) (by with_reducible assumption) (by with_reducible assumption) (by with_reducible assumption) (by with_reducible assumption) (by with_reducible assumption) (by with_reducible assumption) (by with_reducible assumption) (by with_reducible assumption) (by with_reducible assumption) (by with_reducible assumption) (by with_reducible assumption) ))
        | exact rfl)
    | ((with_reducible show wordP _ _ = true); exact ins_set hi rfl)
    | ((with_reducible show inP _ 1 16 = true); exact progP_w hP.hp)
    | (with_reducible exact hP.hp)
    | (with_reducible exact ml)
    | ((with_reducible show LdX _ _); first | exact ⟨fun e => ha.l rfl e⟩ | exact ⟨fun e => ha.s rfl e⟩)
    | ((with_reducible show isNameP _ = true); have q : ic < inn := stk5 hk; exact name_ok hP.i0 (by show ic ≤ 9; omega))
    | (exact (ins_c hi rfl).1)
    | (exact (ins_c hi rfl).2)
    | ((with_reducible show (_ : Int) ≤ _); first | exact (ins_a hi (by omega)).1 | exact (ins_b hi (by omega)).1 | exact i0 | (have q : ic < inn := stk5 hk; omega) | (have q : 0 < sk.length := stk12 hk; omega))
    | ((with_reducible show (_ : Int) < _); first | (have q := ins_a hi (by omega); omega) | (have q := ins_b hi (by omega); omega) | (have q : 0 < sk.length := stk12 hk; omega))
    | ((with_reducible show _ ≤ _); first | omega | (simp only [List.length_take]; omega) | (show (1 + 1 : Nat) ≤ 2 ^ 63 - 1; omega))
    | skip
end Vg
