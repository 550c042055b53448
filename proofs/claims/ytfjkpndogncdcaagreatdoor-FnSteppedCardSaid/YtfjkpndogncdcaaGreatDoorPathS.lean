/- The reference's maker of terms. Condition: terms are good. -/
import Derived.Test.YtfjkpndogncdcaaGreatDoorTermMS
import Derived.Test.YtfjkpndogncdcaaGreatDoorPathI
namespace Vg
open Go Go.Proofs
set_option maxRecDepth 100000 in
theorem pM (b : Bool) (op w : Int) (ks : List V.Term) (hb : b = false) (hn : okTs ks = true) : CallsG Tryz.prog 53 [.ptr 0 0, .dat (.i op), .dat (.i w), .row 1] [.box [.dat (.bool b)], .row 80 .terms ks false] 1 (fun res B => res = s4 (u0 op w 0 ks).1 /\ B = [.box [.dat (.bool (!(u0 op w 0 ks).2))]]) := by
  refine oG Tryz.func53 ⟨?_⟩
  repeat' (first | ((with_reducible refine fun (K1 : KT) hK => ?_); refine z2 ⟨?_⟩) | ((with_reducible show K1 _ _); subst hK; conv => whnf) | refine st0 ⟨?_⟩ | ((with_reducible refine SplS.mk (fun h => ?_) (fun h => ?_)) <;> first | exact lC | (conv => whnf)) | refine s1 ⟨?_⟩ ⟨?_⟩ | ((with_reducible refine iA (g := 97) ?_); (conv => whnf); refine ⟨_, _, qi0 (hn := ?_) .., rfl, zV ?_⟩; rotate_right; conv => whnf))
  all_goals repeat clear hK K1
  all_goals first | (rw [hb, show (u0 op w 0 ks).2 = _ from h]; exact rfl) | exact cJ hn | exact rfl | (rw [show (u0 op w 0 ks).2 = _ from h]; exact rfl) | skip
set_option maxRecDepth 100000
set_option maxHeartbeats 40000000
structure CpOk (s : V.Path) : Prop where
  ro : okTs s.regs = true
  mo : okTs s.mem = true
  oo : okTs s.out = true
  co : okTs s.cond = true
  rl : s.regs.length <= 1000
  ml : s.mem.length <= 1000
  sl : s.stack.length <= 1000
  ol : s.out.length <= 1000
  cl : s.cond.length <= 1000
  tl : s.turns.length <= 1000
theorem qH {t u : V.Term} (h : okT t = true) (h2 : okT u = true) : okTs [t, u] = true := by rw [okTs, okTs, okTs, h, h2]; rfl
theorem qbq {t u v : V.Term} (h : okT t = true) (h2 : okT u = true) (h3 : okT v = true) : okTs [t, u, v] = true := by rw [okTs, okTs, okTs, okTs, h, h2, h3]; rfl
theorem mkP_bad {op w n : Int} {ks : List V.Term} (h : (u0 op w n ks).2 = false) : u0 op w n ks = (zT, false) := by
  unfold u0 at h ⊢
  by_cases c : z6 (oT op w n ks) = true
  . rw [if_pos c] at h; cases h
  . rw [if_neg c]
theorem bxB {t u : Bool} (h : t = u) : [Blk.box [AV.dat (Dat.bool u)]] = [Blk.box [AV.dat (Dat.bool (t))]] := by rw [h]
theorem tup_y {x : V.Term × Bool} {t : V.Term} (h : x.1 = t) : AV.tup [.agg [.dat (.i t.op), .dat (.i t.w), .dat (.i t.n), .dat (.str t.name), .dat (.seq .terms t.kids)], .dat (.bool true)] = AV.tup [s4 x.1, .dat (.bool true)] := by rw [h]; rfl
theorem PI.cp {p : V.Prog} {s : V.Path} (h : PI p s) : CpOk s := by
  have h1 := h.rl; have h2 := h.ml; have h3 := h.sl; have h4 := h.ol; have h5 := h.cl; have h6 := h.tl; have h7 := s6 h.hp
  exact ⟨h.ro, h.mo, h.oo, h.co, by omega, by omega, by omega, by omega, by omega, by omega⟩
theorem qio (l : List V.Term) (hl : okTs l = true) (h1 : l.length <= 1000) : CallsF Tryz.prog 98 [.dat (.seq .terms l)] false (fun res B => res = .row 0 /\ B = [.row 80 .terms l false]) := by
  refine oF Tryz.func98 ⟨?_⟩
  repeat' (first | ((with_reducible refine fun (K1 : KT) hK => ?_); refine z2 ⟨?_⟩) | ((with_reducible show K1 _ _); subst hK; conv => whnf) | (with_reducible exact rfl) | refine st0 ⟨?_⟩ | ((with_reducible refine SplS.mk (fun h => ?_) (fun h => ?_)) <;> first | exact m4 | (subst h; conv => whnf) | (conv => whnf)) | refine s1 ⟨?_⟩ ⟨?_⟩ | (refine l5 ({k : Nat // k <= l.length}) (fun ⟨k, hk⟩ => j5 Tryz.f98.ntmps [(3, .row 3), (7, .dat (.seq .terms l)), (8, .dat (.i l.length)), (9, .dat (.i k))] [(3, .row 80 .terms (l.take k) false)]) (fun ⟨k, hk⟩ => l.length - k) ⟨0, Nat.zero_le _⟩ (SubP.sub (σ := [(3, some 6)]) ⟨⟨rfl, rfl, rfl⟩, ⟨rfl, o0 ?_, o0 ?_, o0 ?_, trivial⟩, ⟨⟨rr, ?_⟩, trivial⟩⟩) (fun ⟨k, hk⟩ => ?_); rotate_right; conv => whnf) | (refine p5 (⟨k + 1, ?_⟩ : {k : Nat // k <= l.length}) ?_ (SubP.sub (σ := [(3, some 17)]) ⟨⟨rfl, rfl, rfl⟩, ⟨rfl, o0 ?_, o0 ?_, o0 ?_, trivial⟩, ⟨⟨rr, ?_⟩, trivial⟩⟩)) | refine vP (qar (hk := ?_) ..) ⟨?_⟩ | (intro h; conv => whnf))
  all_goals repeat clear hK K1
  all_goals first | ((with_reducible show (_ : Int) <= _); omega) | ((with_reducible show (_ : Int) < _); with_reducible assumption) | ((with_reducible show okT _ = true); exact qbp asmR hl) | ((with_reducible show (_ : Nat) < _); (dsimp only; omega)) | (refine congrArg (Dat.int .i64) ?_; rw [j2 omG omG]; rfl) | exact congrArg (Sigma.mk K.terms) ((pZ asmR).trans rfl) | ((with_reducible show _ * _ <= _); have l4 := eP (ks := l) hk; rw [l4]; exact Nat.le_trans (Nat.mul_le_mul_right _ (show k + 1 <= 1001 by omega)) (by decide)) | ((with_reducible show _ + _ <= _); have l4 := eP (ks := l) hk; rw [l4]; show k + 1 <= 2 ^ 63 - 1; omega) | ((with_reducible show _ <= _); omega) | (have e : l.take k = l := (gT (ks := l) (k := k) omG); rw [e]; exact rfl) | exact rfl | skip
theorem sP (pc : Int) (rg mm : List V.Term) (sk : List Int) (ic : Int) (ot : List V.Term) (cd sp : Int) (cn : List V.Term) (tr : List Int) (h : CpOk ⟨pc, rg, mm, sk, ic, ot, cd, sp, cn, tr⟩) : CallsF Tryz.prog 54 [.agg [.dat (.i pc), .dat (.seq .terms rg), .dat (.seq .terms mm), .dat (.seq .ints sk), .dat (.i ic), .dat (.seq .terms ot), .dat (.i cd), .dat (.i sp), .dat (.seq .terms cn), .dat (.seq .ints tr)]] false (fun res B => res = .agg [.dat (.i pc), .row 0, .row 1, .row 2, .dat (.i ic), .row 3, .dat (.i cd), .dat (.i sp), .row 4, .row 5] /\ B = [.row 80 .terms rg false, .row 80 .terms mm false, .row 3 .ints sk false, .row 80 .terms ot false, .row 80 .terms cn false, .row 3 .ints tr false]) := by
  refine oF Tryz.func54 ⟨?_⟩
  repeat' (first | ((with_reducible refine fun (K1 : KT) hK => ?_); refine z2 ⟨?_⟩) | ((with_reducible show K1 _ _); subst hK; conv => whnf) | refine st0 ⟨?_⟩ | refine s1 ⟨?_⟩ ⟨?_⟩ | refine eS (qio (hl := ?_) (h1 := ?_) ..) ⟨?_⟩ | fail)
  all_goals repeat clear hK K1
  all_goals first | exact h.ro | exact h.mo | exact h.oo | exact h.co | exact h.rl | exact h.ml | exact h.ol | exact h.cl | (have q := h.sl; have q2 := h.tl; dsimp only at q q2; have hm : maxLen = 9223372036854775807 := rfl; first | omega | (simp; omega) | (show (_ + _) * 8 <= _; simp; omega)) | exact rfl | skip
theorem qh3 (w mem inn : Int) (code : List V.Ins) (k : Int) (h0 : 0 <= k) (h1 : k <= 2) : CallsV Tryz.prog 101 [.agg [.dat (.i w), .dat (.i mem), .dat (.i inn), .dat (.seq .inss code)], .dat (.i k)] (s4 (varT w k)) := by
  refine oV Tryz.func101 ⟨?_⟩
  repeat' (first | ((with_reducible refine fun (K1 : KT) hK => ?_); refine z2 ⟨?_⟩) | ((with_reducible show K1 _ _); subst hK; conv => whnf) | (with_reducible refine y7 ?_) | refine st0 ⟨?_⟩ | refine s1 ⟨?_⟩ ⟨?_⟩ | refine vE (qax (h0 := ?_) (h1 := ?_) ..) ⟨?_⟩ | fail)
  all_goals repeat clear hK K1
  all_goals first | exact h0 | exact h1 | exact rfl | exact (show (2 : Nat) <= maxLen by decide) | exact ⟨rfl, rfl, rfl, rfl, rfl, True.intro⟩ | exact ⟨⟨rfl, rfl, rfl, rfl, rfl, True.intro⟩⟩ | skip
theorem qhw (pc : Int) (rg mm : List V.Term) (sk : List Int) (ic : Int) (ot : List V.Term) (cd sp : Int) (cn : List V.Term) (tr : List Int) (op a b c : Int) : CallsV Tryz.prog 64 [.agg [.dat (.i pc), .dat (.seq .terms rg), .dat (.seq .terms mm), .dat (.seq .ints sk), .dat (.i ic), .dat (.seq .terms ot), .dat (.i cd), .dat (.i sp), .dat (.seq .terms cn), .dat (.seq .ints tr)], .agg [.dat (.i op), .dat (.i a), .dat (.i b), .dat (.i c)]] (jG (y9 ⟨pc, rg, mm, sk, ic, ot, cd, sp, cn, tr⟩ ⟨op, a, b, c⟩)) := by
  refine oV Tryz.func64 ⟨?_⟩
  repeat' (first | ((with_reducible refine fun (K1 : KT) hK => ?_); refine z2 ⟨?_⟩) | ((with_reducible show K1 _ _); subst hK; conv => whnf) | (with_reducible refine y7 ?_) | refine st0 ⟨?_⟩ | ((with_reducible refine SplS.mk (fun h => ?_) (fun h => ?_)) <;> first | exact m4 | (subst h; conv => whnf) | (conv => whnf)))
  all_goals repeat clear hK K1
  all_goals first | exact ⟨fr10 rfl⟩ | exact ⟨fr10 (qb2 asmR asmR asmR)⟩ | skip
theorem qh7 (w mem inn : Int) (code : List V.Ins) (pc : Int) (rg mm : List V.Term) (sk : List Int) (ic : Int) (ot : List V.Term) (cd sp : Int) (cn : List V.Term) (tr : List Int) (op a b c : Int) (hP : PI ⟨w, mem, inn, code⟩ ⟨pc, rg, mm, sk, ic, ot, cd, sp, cn, tr⟩) (hi : r5 ⟨op, a, b, c⟩ w code.length = true) : CallsG Tryz.prog 62 [.ptr 0 0, .agg [.dat (.i w), .dat (.i mem), .dat (.i inn), .dat (.seq .inss code)], .agg [.dat (.i pc), .dat (.seq .terms rg), .dat (.seq .terms mm), .dat (.seq .ints sk), .dat (.i ic), .dat (.seq .terms ot), .dat (.i cd), .dat (.i sp), .dat (.seq .terms cn), .dat (.seq .ints tr)], .agg [.dat (.i op), .dat (.i a), .dat (.i b), .dat (.i c)]] [.box [.dat (.bool false)]] 1 (fun res B => (m5 ⟨op, a, b, c⟩ = true /\ res = .tup [s4 (f2 ⟨w, mem, inn, code⟩ ⟨pc, rg, mm, sk, ic, ot, cd, sp, cn, tr⟩ ⟨op, a, b, c⟩).1, .dat (.bool true)] /\ B = [.box [.dat (.bool (!(f2 ⟨w, mem, inn, code⟩ ⟨pc, rg, mm, sk, ic, ot, cd, sp, cn, tr⟩ ⟨op, a, b, c⟩).2))]]) \/ (m5 ⟨op, a, b, c⟩ = false /\ res = .tup [.agg [.dat (.i 0), .dat (.i 0), .dat (.i 0), .dat (.str ByteArray.empty), .nils], .dat (.bool false)] /\ B = [.box [.dat (.bool false)]])) := by
  refine oG Tryz.func62 ⟨?_⟩
  repeat' (first | ((with_reducible refine fun (K1 : KT) hK => ?_); refine z2 ⟨?_⟩) | ((with_reducible show K1 _ _); subst hK; conv => whnf) | (with_reducible exact rfl) | refine p8 ⟨?_⟩ | ((with_reducible show WEach _ _); refine zA rfl ?_ ?_; conv => whnf) | refine st0 ⟨?_⟩ | ((with_reducible refine SplS.mk (fun h => ?_) (fun h => ?_)) <;> first | exact s5 | (subst h; conv => whnf) | (conv => whnf)) | refine s1 ⟨?_⟩ ⟨?_⟩ | refine vP (rF ..) ⟨?_⟩ | refine gS (pM (hb := ?_) (hn := ?_) ..) ⟨?_⟩ | fail)
  all_goals repeat clear hK K1
  all_goals (have hp : f4 ⟨w, mem, inn, code⟩ = true := hP.hp; have hr : rg.length = 4 := hP.rl; try simp only [V.Term.eta] at *)
  all_goals first | ((with_reducible show (_ : Int) <= _); first | (exact (p9 hi omG).1) | (exact (e9 hi omG).1) | omega) | ((with_reducible show (_ : Int) < _); first | (have q := p9 hi omG; omega) | (have q := e9 hi omG; omega) | omega) | ((with_reducible show okTs _ = true); first | exact qH (rB (zero_word (progP_w hp))) (hP.reg (p9 hi omG)) | exact qH (rB (zero_word (progP_w hp))) (hP.reg (e9 hi omG)) | exact qH (hP.reg (p9 hi omG)) (rB (s6 hp).2.2.1) | exact qH (hP.reg (e9 hi omG)) (rB (s6 hp).2.2.1) | exact dJ (dB asmR).1) | ((with_reducible show _ \/ _); first | exact .inl ⟨rfl, rfl, rfl⟩ | exact .inl ⟨rfl, tup_y (congrArg Prod.fst (mS (p := ⟨w, mem, inn, code⟩) asmR)), bxB (congrArg Bool.not (congrArg Prod.snd (mS (p := ⟨w, mem, inn, code⟩) asmR)))⟩ | exact .inl ⟨rfl, tup_y ((congrArg Prod.fst (nS (p := ⟨w, mem, inn, code⟩) asmR)).trans (congrArg Prod.fst (mkP_bad asmR)).symm), bxB ((congrArg Bool.not (congrArg Prod.snd (nS (p := ⟨w, mem, inn, code⟩) asmR))).trans (congrArg Bool.not asmR).symm)⟩ | exact .inr ⟨qgc asmR asmR, True.intro, True.intro⟩ | exact .inr ⟨qgb asmR asmR asmR asmR asmR, True.intro, True.intro⟩) | exact congrArg Bool.not (show _ = true from by with_reducible assumption) | skip
end Vg
