/- Paths: what the reference does if the answer is no is what the program follows, and the reference's step. Condition: the path is one under way (PI). -/
import Derived.Test.YtjlffejifadkiaaGreatDoorPathT
namespace Vg
open Go Go.Proofs
noncomputable def noR (p : V.Prog) (s : V.Path) (i : V.Ins) : V.Path × Bool :=
  if i.op = 14 then ({ s with code := 1 }, true)
  else if qav p s i ≠ 0 then ({ s with code := qav p s i }, true)
  else if i.op = 7 then ({ s with regs := s.regs.set i.a.toNat (qez p s.mem (rgT s i.b)).1, pc := s.pc + 1 }, (qez p s.mem (rgT s i.b)).2)
  else if i.op = 8 then ({ s with mem := (qet p s.mem (rgT s i.a) (rgT s i.b)).1, pc := s.pc + 1 }, (qet p s.mem (rgT s i.a) (rgT s i.b)).2)
  else qay p s i
section
variable {p : V.Prog} {s : V.Path} {a b c : Int} {i : V.Ins}
theorem no_14 : noR p s ⟨14, a, b, c⟩ = ({ s with code := 1 }, true) := if_pos rfl
theorem no_st {k : Int} (h14 : ¬ i.op = 14) (h : qav p s i = k) (hk : ¬ k = 0) : noR p s i = ({ s with code := k }, true) := by
  unfold noR
  rw [if_neg h14, h, if_pos hk]
theorem no_5 (h : p.inn ≤ s.inn) : noR p s ⟨5, a, b, c⟩ = ({ s with code := 3 }, true) := no_st (show ¬ (5 : Int) = 14 by decide) (if_pos ⟨rfl, h⟩) (by decide)
theorem no_6 (h : 6 ≤ (s.out.length : Int)) : noR p s ⟨6, a, b, c⟩ = ({ s with code := 4 }, true) := no_st (show ¬ (6 : Int) = 14 by decide) (by unfold qav; rw [if_neg (fun q => absurd (show (6 : Int) = 5 from q.1) (by decide)), if_pos ⟨rfl, h⟩]) (by decide)
theorem no_11 (h : 3 ≤ (s.stack.length : Int)) : noR p s ⟨11, a, b, c⟩ = ({ s with code := 7 }, true) := no_st (show ¬ (11 : Int) = 14 by decide) (by unfold qav; rw [if_neg (fun q => absurd (show (11 : Int) = 5 from q.1) (by decide)), if_neg (fun q => absurd (show (11 : Int) = 6 from q.1) (by decide)), if_pos ⟨rfl, h⟩]) (by decide)
theorem no_12 (h : (s.stack.length : Int) = 0) : noR p s ⟨12, a, b, c⟩ = ({ s with code := 7 }, true) := no_st (show ¬ (12 : Int) = 14 by decide) (by unfold qav; rw [if_neg (fun q => absurd (show (12 : Int) = 5 from q.1) (by decide)), if_neg (fun q => absurd (show (12 : Int) = 6 from q.1) (by decide)), if_neg (fun q => absurd (show (12 : Int) = 11 from q.1) (by decide)), if_pos ⟨rfl, h⟩]) (by decide)
theorem no_7 : noR p s ⟨7, a, b, c⟩ = ({ s with regs := s.regs.set a.toNat (qez p s.mem (rgT s b)).1, pc := s.pc + 1 }, (qez p s.mem (rgT s b)).2) := by
  have e : qav p s ⟨7, a, b, c⟩ = 0 := by
    unfold qav
    rw [if_neg (fun q => absurd (show (7 : Int) = 5 from q.1) (by decide)), if_neg (fun q => absurd (show (7 : Int) = 6 from q.1) (by decide)), if_neg (fun q => absurd (show (7 : Int) = 11 from q.1) (by decide)), if_neg (fun q => absurd (show (7 : Int) = 12 from q.1) (by decide))]
  unfold noR
  rw [if_neg (show ¬ (7 : Int) = 14 by decide), if_neg (by rw [e]; decide), if_pos rfl]
theorem no_8 : noR p s ⟨8, a, b, c⟩ = ({ s with mem := (qet p s.mem (rgT s a) (rgT s b)).1, pc := s.pc + 1 }, (qet p s.mem (rgT s a) (rgT s b)).2) := by
  have e : qav p s ⟨8, a, b, c⟩ = 0 := by
    unfold qav
    rw [if_neg (fun q => absurd (show (8 : Int) = 5 from q.1) (by decide)), if_neg (fun q => absurd (show (8 : Int) = 6 from q.1) (by decide)), if_neg (fun q => absurd (show (8 : Int) = 11 from q.1) (by decide)), if_neg (fun q => absurd (show (8 : Int) = 12 from q.1) (by decide))]
  unfold noR
  rw [if_neg (show ¬ (8 : Int) = 14 by decide), if_neg (by rw [e]; decide), if_neg (show ¬ (8 : Int) = 7 by decide), if_pos rfl]
theorem st_0 (h5 : i.op = 5 → s.inn < p.inn) (h6 : i.op = 6 → (s.out.length : Int) < 6) (h11 : i.op = 11 → (s.stack.length : Int) < 3) (h12 : i.op = 12 → ¬ (s.stack.length : Int) = 0) : qav p s i = 0 := by
  unfold qav
  rw [if_neg (fun q => by have := h5 q.1; omega), if_neg (fun q => by have := h6 q.1; omega), if_neg (fun q => by have := h11 q.1; omega), if_neg (fun q => h12 q.1 q.2)]
theorem no_go (h14 : ¬ i.op = 14) (hk : qav p s i = 0) (h7 : ¬ i.op = 7) (h8 : ¬ i.op = 8) : noR p s i = qay p s i := by
  unfold noR
  rw [if_neg h14, if_neg (by rw [hk]; decide), if_neg h7, if_neg h8]
end
end Vg

namespace Vg
open Go Go.Proofs
set_option maxRecDepth 100000
set_option maxHeartbeats 40000000
theorem s_l06Fork (pc : Int) (rg mm : List V.Term) (sk : List Int) (ic : Int) (ot : List V.Term) (cd sp : Int) (cn : List V.Term) (tr : List Int) (xo xw xn : Int) (xm : ByteArray) (xk : List V.Term) (n : Int) (h : CpOk ⟨pc, rg, mm, sk, ic, ot, cd, sp, cn, tr⟩) : CallsF Tryz.prog 78 [.agg [.dat (.i pc), .dat (.seq .terms rg), .dat (.seq .terms mm), .dat (.seq .ints sk), .dat (.i ic), .dat (.seq .terms ot), .dat (.i cd), .dat (.i sp), .dat (.seq .terms cn), .dat (.seq .ints tr)], .agg [.dat (.i xo), .dat (.i xw), .dat (.i xn), .dat (.str xm), .dat (.seq .terms xk)], .dat (.i n)] false (fun res B => res = .agg [.dat (.i pc), .row 0, .row 1, .row 2, .dat (.i ic), .row 3, .dat (.i cd), .dat (.i sp), .row 4, .row 5] ∧ B = [.row 108 .terms rg false, .row 108 .terms mm false, .row 3 .ints sk false, .row 108 .terms ot false, .row 108 .terms (cn ++ [⟨xo, xw, xn, xm, xk⟩]) false, .row 3 .ints (tr ++ [n]) false]) := by
  refine oF Tryz.func78 ⟨?_⟩
  repeat' (first | ((with_reducible refine fun (K1 : KT) hK => ?_); refine stW ⟨?_⟩) | ((with_reducible show K1 _ _); subst hK; conv => whnf) | (with_reducible exact rfl) | refine st0 ⟨?_⟩ | ((with_reducible refine SplS.mk (fun h => ?_) (fun h => ?_)) <;> first | exact ctM | ((fail_if_success (have _x : @Eq Bool _ _ := h)); subst h; conv => whnf) | (conv => whnf)) | refine stB ⟨?_⟩ ⟨?_⟩ | ((with_reducible refine fcI (g := 72) ?_); refine ⟨_, _, qgg (h := ?_) .., rfl, fun res B hRB => ?_⟩; rotate_right; obtain ⟨rfl, rfl⟩ := hRB; conv => whnf) | (intro h; conv => whnf))
  all_goals repeat clear hK K1
  all_goals first | exact h | (with_reducible exact rfl) | exact rfl | (have q := h.cl; have q2 := h.tl; dsimp only at q q2; have hm : maxLen = 9223372036854775807 := rfl; first | omega | (simp; omega) | (show (_ + _) * 8 ≤ _; simp; omega) | (show (_ + _) * 64 ≤ _; simp; omega)) | skip
def callsB (gs : List Nat) : List Oper → Bool
  | [] => false
  | o :: l => (match o.op with
    | .call { callee := .value (.func g), args := _, argTypes := _ } => gs.any (Nat.beq g)
    | _ => false) || callsB gs l
theorem alt_dr {P : Program} {τ : Tys} {ops : Array Oper} {S : AState} {K : AState → Prop} {A : Prop} (gs : List Nat) (_ : callsB gs (ops.toList.take (preLen ops.toList)) = true)
    (h : match qei ops.toList 0 && qfj ops.toList with
      | true => ancK ops.toList 0 [] [] fun L => qnu τ ops L L [] fun E => qfm (qb3 E) fun R => WRun P τ ops R true 0 0 E S fun S => WR P τ ops E R E.length 0 S K
      | false => False) : Alt A (qe3 P τ ops S K) := by
  refine .r ?_
  unfold qe3
  simp only [qmm, WR_eq] at h
  exact h
theorem qld (op w : Int) (ho : 3 ≤ op ∧ op ≤ 16) (hw : inP w 1 16 = true) : CallsV Tryz.prog 114 [.dat (.i op), .dat (.i w)] (.dat (.i (rwP op w))) := by
  refine oV Tryz.func114 ⟨?_⟩
  repeat' (first | ((with_reducible refine fun (K1 : KT) hK => ?_); refine stW ⟨?_⟩) | ((with_reducible show K1 _ _); subst hK; conv => whnf) | (with_reducible exact rfl) | refine st0 ⟨?_⟩ | ((with_reducible refine SplS.mk (fun h => ?_) (fun h => ?_)) <;> first | exact ctM | (subst h; conv => whnf) | (conv => whnf)) | ((with_reducible first | refine pcI (g := 38) ?_ | show Exists _); refine ⟨_, s_l01In .., rfl, ?_⟩; rotate_right; conv => whnf) | (intro h; conv => whnf))
  all_goals repeat clear hK K1
  all_goals first | (refine qfn (Eq.symm ?_); unfold rwP; (first | rw [if_pos omG] | rw [if_neg omG]); done) | (exact Bool.noConfusion (Eq.trans (Eq.symm (inP_iff.2 omG)) (show inP op 1 16 = false by with_reducible assumption))) | (exfalso; omega) | (exact absurd (hw.symm.trans asmR) (by decide)) | skip
theorem qkd (M : Int → Int → Int → List V.Term → V.Term × Bool) (b : Bool) (op w : Int) (ks : List V.Term) (hM : M = mkP) (hb : b = false) (hn : okTs ks = true) : CallsG Tryz.prog 77 [.ptr 0 0, .dat (.i op), .dat (.i w), .row 1] [.box [.dat (.bool b)], .row 108 .terms ks false] 1 (fun res B => res = qbj (M op w 0 ks).1 ∧ B = [.box [.dat (.bool (!(M op w 0 ks).2))]]) := by
  subst hM
  exact qew b op w ks hb hn
end Vg
