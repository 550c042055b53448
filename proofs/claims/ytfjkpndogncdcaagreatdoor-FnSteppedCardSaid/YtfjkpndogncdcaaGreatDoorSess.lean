/- Sessions: contracts of the functions that look at them, and of the law FnExactSessionOk. Condition: lists are no longer than the law lets through. -/
import Derived.Test.YtfjkpndogncdcaaGreatDoorBase
namespace Vg
open Go Go.Proofs
set_option maxRecDepth 100000
set_option maxHeartbeats 40000000
def s8 (p : V.Prog) (l : List Int) : Bool := f4 p && (l.all (fun x => wordP p.w x) && (l.length == p.inn))
theorem qaq (l : List Int) (n w : Int) : CallsV Tryz.prog 60 [.dat (.seq .ints l), .dat (.i n), .dat (.i w)] (.dat (.bool (l.all (fun x => wordP w x) && (l.length == n)))) := by
  refine oV Tryz.func60 ⟨?_⟩
  repeat' (first | ((with_reducible refine fun (K1 : KT) hK => ?_); refine o5 ⟨?_⟩) | ((with_reducible show K1 _ _); subst hK; conv => whnf) | (with_reducible exact rfl) | refine st0 ⟨?_⟩ | ((with_reducible refine SplS.mk (fun h => ?_) (fun h => ?_)) <;> first | exact m4 | (subst h; conv => whnf) | (conv => whnf)) | refine s1 ⟨?_⟩ ⟨?_⟩ | (refine l5 ({k : Nat // (l.take k).all (fun x => wordP w x) = true}) (fun ⟨k, hall⟩ => j5 Tryz.f60.ntmps [(0, .dat (.seq .ints l)), (1, .dat (.i n)), (2, .dat (.i w)), (9, .dat (.seq .ints l)), (10, .dat (.i l.length)), (11, .dat (.i k))] []) (fun ⟨k, hall⟩ => l.length - k) ⟨0, rfl⟩ (SubP.sub (σ := []) ⟨⟨rfl, rfl, rfl⟩, ⟨o0 ?_, o0 ?_, o0 ?_, o0 ?_, o0 ?_, o0 ?_, trivial⟩, trivial⟩) (fun ⟨k, hall⟩ => ?_); rotate_right; conv => whnf) | (refine p5 ⟨k + 1, ?_⟩ ?_ (SubP.sub (σ := []) ⟨⟨rfl, rfl, rfl⟩, ⟨o0 ?_, o0 ?_, o0 ?_, o0 ?_, o0 ?_, o0 ?_, trivial⟩, trivial⟩)) | refine vP (sF ..) ⟨?_⟩ | (intro h; conv => whnf))
  all_goals repeat clear hK K1
  all_goals first | rfl | assumption | omega | (dsimp only; omega) | exact congrArg (Dat.int .i64) (wrap_succ (by assumption) (by assumption)).symm | (rw [dH (K.dflt .ints) (by assumption), hall]; exact h) | (rw [aK (f := fun x => wordP w x) (by assumption) h, Bool.false_and]) | (have e := bK (by assumption) hall; rw [e, Bool.true_and])
theorem qks (w : Int) (l : List Int) : CallsV Tryz.prog 116 [.dat (.i w), .dat (.seq .ints l)] (.dat (.bool (l.all (fun x => wordP w x)))) := by
  refine oV Tryz.func116 ⟨?_⟩
  repeat' (first | ((with_reducible refine fun (K1 : KT) hK => ?_); refine o5 ⟨?_⟩) | ((with_reducible show K1 _ _); subst hK; conv => whnf) | (with_reducible exact rfl) | refine st0 ⟨?_⟩ | ((with_reducible refine SplS.mk (fun h => ?_) (fun h => ?_)) <;> first | exact m4 | (subst h; conv => whnf) | (conv => whnf)) | refine s1 ⟨?_⟩ ⟨?_⟩ | (refine l5 ({k : Nat // (l.take k).all (fun x => wordP w x) = true}) (fun ⟨k, hall⟩ => j5 Tryz.f116.ntmps [(0, .dat (.i w)), (7, .dat (.seq .ints l)), (8, .dat (.i l.length)), (9, .dat (.i k))] []) (fun ⟨k, hall⟩ => l.length - k) ⟨0, rfl⟩ (SubP.sub (σ := []) ⟨⟨rfl, rfl, rfl⟩, ⟨o0 ?_, o0 ?_, o0 ?_, o0 ?_, trivial⟩, trivial⟩) (fun ⟨k, hall⟩ => ?_); rotate_right; conv => whnf) | (refine p5 ⟨k + 1, ?_⟩ ?_ (SubP.sub (σ := []) ⟨⟨rfl, rfl, rfl⟩, ⟨o0 ?_, o0 ?_, o0 ?_, o0 ?_, trivial⟩, trivial⟩)) | refine vP (wD ..) ⟨?_⟩ | (intro h; conv => whnf))
  all_goals repeat clear hK K1
  all_goals first | rfl | assumption | omega | (dsimp only; omega) | exact congrArg (Dat.int .i64) (wrap_succ (by assumption) (by assumption)).symm | (rw [dH (K.dflt .ints) (by assumption), hall]; exact h) | (rw [aK (f := fun x => wordP w x) (by assumption) h]) | (have e := bK (by assumption) hall; rw [e])
theorem xT (w mem inn : Int) (c : List V.Ins) (l : List Int) : CallsV Tryz.prog 26 [.agg [.dat (.i w), .dat (.i mem), .dat (.i inn), .dat (.seq .inss c)], .dat (.seq .ints l)] (.dat (.bool (s8 ⟨w, mem, inn, c⟩ l))) := by
  refine oV Tryz.func26 ⟨?_⟩
  repeat' (first | ((with_reducible refine fun (K1 : KT) hK => ?_); refine o5 ⟨?_⟩) | ((with_reducible show K1 _ _); subst hK; conv => whnf) | refine st0 ⟨?_⟩ | ((with_reducible refine SplS.mk (fun h => ?_) (fun h => ?_)) <;> first | exact m4 | (conv => whnf)) | refine vP (qM ..) ⟨?_⟩ | refine vP (qaq ..) ⟨?_⟩ | fail)
  all_goals repeat clear hK K1
  all_goals simp only [s8, h, Bool.true_and, Bool.false_and]
theorem qls (w mem inn : Int) (c : List V.Ins) (l : List Int) : CallsV Tryz.prog 78 [.agg [.dat (.i w), .dat (.i mem), .dat (.i inn), .dat (.seq .inss c)], .dat (.seq .ints l)] (.dat (.bool (s8 ⟨w, mem, inn, c⟩ l))) := by
  refine oV Tryz.func78 ⟨?_⟩
  repeat' (first | ((with_reducible refine fun (K1 : KT) hK => ?_); refine o5 ⟨?_⟩) | ((with_reducible show K1 _ _); subst hK; conv => whnf) | refine st0 ⟨?_⟩ | ((with_reducible refine SplS.mk (fun h => ?_) (fun h => ?_)) <;> first | exact m4 | (subst h; conv => whnf) | (conv => whnf)) | refine vP (qds ..) ⟨?_⟩ | refine vP (qks ..) ⟨?_⟩ | (intro h; conv => whnf))
  all_goals repeat clear hK K1
  all_goals (simp [s8, *]; done)
end Vg
