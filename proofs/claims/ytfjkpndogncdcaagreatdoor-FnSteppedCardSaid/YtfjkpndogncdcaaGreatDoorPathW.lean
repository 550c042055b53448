/- Paths: where a path starts, and the path of some turns. Condition: the program is in order, the turns are 0 or 1. -/
import Derived.Test.YtfjkpndogncdcaaGreatDoorPathL
namespace Vg
open Go Go.Proofs
def g7 (p : V.Prog) : V.Path := ⟨0, List.replicate 4 (cT p.w 0), List.replicate p.mem.toNat (cT p.w 0), [], 0, [], 0, 0, [], []⟩
theorem uU {t : V.Term} (h : okT t = true) : ∀ n, okTs (List.replicate n t) = true
  | 0 => by rw [List.replicate_zero, okTs]
  | n + 1 => by rw [List.replicate_succ, okTs, h, uU h n]; rfl
theorem qn6 {p : V.Prog} (h : f4 p = true) : PI p (g7 p) := by
  have hz := rB (zero_word (progP_w h))
  have hM := s6 h
  refine ⟨h, Int.le_refl _, ?_, rfl, uU hz 4, ?_, uU hz _, Nat.zero_le _, (fun x hx => by cases hx), Int.le_refl _, hM.2.2.2.1, Nat.zero_le _, ?_, Int.le_refl _, (by show (0 : Int) <= 400; decide), Nat.zero_le _, ?_, Nat.zero_le _⟩
  . show (0 : Int) <= _; omega
  . show ((List.replicate p.mem.toNat (cT p.w 0)).length : Int) = _; rw [List.length_replicate]; omega
  . show okTs [] = true; rw [okTs]
  . show okTs [] = true; rw [okTs]
/-! ### the path of some turns -/
def kM (l : List Int) : Bool := l.all fun n => decide (n = 0 \/ n = 1)
theorem qmr (p : V.Prog) (s : V.Path) (i : V.Ins) : (g9 p s i).length <= 2 := by
  unfold g9
  repeat' split
  all_goals first | exact (by decide : (1 : Nat) <= 2) | exact (by decide : (2 : Nat) <= 2)
theorem wZ (p : V.Prog) (s : V.Path) : (z1 p s).length <= 2 := by
  unfold z1
  repeat' split
  . exact (by decide : (0 : Nat) <= 2)
  . exact (by decide : (1 : Nat) <= 2)
  . exact (by decide : (1 : Nat) <= 2)
  . exact qmr _ _ _
theorem bQ (s : V.Path) : (⟨s.pc, s.regs, s.mem, s.stack, s.inn, s.out, s.code, s.steps, s.cond, s.turns⟩ : V.Path) = s := rfl
section
variable {p : V.Prog} {tr : List Int} {fuel : Int} {k u : Nat} {s : V.Path}
end
set_option maxRecDepth 100000 in
theorem qku (l : List Int) : CallsV Tryz.prog 69 [.dat (.seq .ints l)] (.dat (.bool (kM l))) := by
  refine oV Tryz.func69 ⟨?_⟩
  repeat' (first | ((with_reducible refine fun (K1 : KT) hK => ?_); refine z2 ⟨?_⟩) | ((with_reducible show K1 _ _); subst hK; conv => whnf) | (with_reducible exact rfl) | refine st0 ⟨?_⟩ | ((with_reducible refine SplS.mk (fun h => ?_) (fun h => ?_)) <;> first | exact m4 | (subst h; conv => whnf) | (conv => whnf)) | refine s1 ⟨?_⟩ ⟨?_⟩ | (refine l5 ({k : Nat // (l.take k).all (fun n => decide (n = 0 \/ n = 1)) = true}) (fun ⟨k, hall⟩ => j5 Tryz.f69.ntmps [(5, .dat (.seq .ints l)), (6, .dat (.i l.length)), (7, .dat (.i k))] []) (fun ⟨k, hall⟩ => l.length - k) ⟨0, rfl⟩ (SubP.sub (σ := []) ⟨⟨rfl, rfl, rfl⟩, ⟨o0 ?_, o0 ?_, o0 ?_, trivial⟩, trivial⟩) (fun ⟨k, hall⟩ => ?_); rotate_right; conv => whnf) | (refine p5 (⟨k + 1, ?_⟩ : {k : Nat // (l.take k).all (fun n => decide (n = 0 \/ n = 1)) = true}) ?_ (SubP.sub (σ := []) ⟨⟨rfl, rfl, rfl⟩, ⟨o0 ?_, o0 ?_, o0 ?_, trivial⟩, trivial⟩)) | (intro h; conv => whnf))
  all_goals repeat clear hK K1
  all_goals first | ((with_reducible show (_ : Int) <= _); omega) | ((with_reducible show (_ : Int) < _); with_reducible assumption) | ((with_reducible show (_ : Nat) < _); (dsimp only; omega)) | exact congrArg (Dat.int .i64) (wrap_succ asmR asmR).symm | exact rfl | (simp only [Int.toNat_natCast] at *; rw [dH K.ints.dflt asmR, hall]; exact decide_eq_true omG) | (simp only [Int.toNat_natCast] at *; refine congrArg Dat.bool ?_; unfold kM; exact aK (d := K.ints.dflt) asmR (decide_eq_false omG)) | (refine congrArg Dat.bool ?_; unfold kM; exact bK asmR hall) | skip
end Vg
