/- FactHolds: contracts, and of the law FnExactFactHolds. Condition: lists are no longer than the law lets through. -/
import Derived.Test.YtndmanmhalpjgaaGreatDoorSess
import Derived.Test.YtndmanmhalpjgaaGreatDoorBase
import Derived.Test.YtndmanmhalpjgaaGreatDoorWords
namespace Vg
open Go Go.Proofs
set_option maxRecDepth 100000
set_option maxHeartbeats 40000000
def nC (w : Int) (f : V.Fact) (l : List Int) : Bool :=
  if f.kind = 1 then l.getD f.a.toNat K.ints.dflt == f.n
  else if f.kind = 2 then l.getD f.a.toNat K.ints.dflt == l.getD f.b.toNat K.ints.dflt
  else if f.kind = 3 then decide (l.getD f.a.toNat K.ints.dflt ≤ f.n)
  else if f.kind = 4 then IntKind.i64.wrap (BitVec.ofInt IntKind.i64.bits (Int.fdiv (l.getD f.a.toNat K.ints.dflt) (2 ^ min f.b.toNat IntKind.i64.bits)) &&& BitVec.ofInt IntKind.i64.bits 1).toNat == f.n
  else if f.kind = 5 then a7 w (IntKind.i64.wrap (l.getD f.a.toNat K.ints.dflt + l.getD f.b.toNat K.ints.dflt)) == f.n
  else decide (l.getD f.a.toNat K.ints.dflt ≤ l.getD f.b.toNat K.ints.dflt)
theorem bU {w k a b n : Int} (hf : factP w ⟨k, a, b, n⟩ = true) : 0 ≤ a ∧ a < 4 := by
  unfold factP at hf
  split at hf
  · cases hf
  · rename_i h
    simp [regP, inP] at h
    omega
theorem wK {w k a b n : Int} (hf : factP w ⟨k, a, b, n⟩ = true) (h1 : ¬ k = 1) (h3 : ¬ k = 3) (h4 : ¬ k = 4) : 0 ≤ b ∧ b < 4 := by
  simp only [factP, h1, h3, h4, if_false] at hf
  split at hf
  · cases hf
  · have : regP b = true := by
      repeat' split at hf
      all_goals first | (simp at hf; exact hf.1.1) | (simp at hf; done)
    simp [regP, inP] at this
    omega
theorem cU {w a b n : Int} (hf : factP w ⟨4, a, b, n⟩ = true) : 0 ≤ b ∧ b < w := by
  unfold factP at hf
  split at hf
  · cases hf
  · simp [inP] at hf
    omega
theorem mZ (w k a b n : Int) (l : List Int) (hw : inP w 1 16 = true) (hf : factP w ⟨k, a, b, n⟩ = true) (hl : l.length = 4) : CallsV Tryz.prog 32 [.dat (.i w), .agg [.dat (.i k), .dat (.i a), .dat (.i b), .dat (.i n)], .dat (.seq .ints l)] (.dat (.bool (nC w ⟨k, a, b, n⟩ l))) := by
  refine oV Tryz.func32 ⟨?_⟩
  repeat' (first | ((with_reducible refine fun (K1 : KT) hK => ?_); refine j4 ⟨?_⟩) | ((with_reducible show K1 _ _); subst hK; conv => whnf) | (with_reducible exact rfl) | refine m0 ⟨?_⟩ | ((with_reducible refine SplS.mk (fun h => ?_) (fun h => ?_)) <;> first | exact x5 | ((fail_if_success (have _x : @Eq Bool _ _ := h)); subst h; conv => whnf) | (conv => whnf)) | refine u2 ⟨?_⟩ ⟨?_⟩ | ((with_reducible show Exists _); refine Exists.intro _ (And.intro (i_WordOf ..) (And.intro rfl ?_)); rotate_right; conv => whnf) | (intro h; conv => whnf))
  all_goals repeat clear hK K1
  all_goals first
    | rfl
    | (have := bU hf; omega)
    | (have := wK hf omG omG omG; omega)
    | (have h4 := cU hf
       have h5 : inP b 0 15 = true := by
         simp [inP] at hw
         simp [inP]; omega
       have e : IntKind.u64.wrap b = b := uw0 h5
       first | (rw [e]; omega) | (rw [e]; rfl)) | (simp [nC, *]; done)
def uF (p : V.Prog) (f : V.Fact) (l : List Int) : Bool := (progP p && factP p.w f) && ((l.all (fun x => wordP p.w x) && (l.length == (4 : Int))) && nC p.w f l)
theorem yZ (w mem inn : Int) (c : List V.Ins) (k a b n : Int) (l : List Int) : CallsV Tryz.prog 12 [.agg [.dat (.i w), .dat (.i mem), .dat (.i inn), .dat (.seq .inss c)], .agg [.dat (.i k), .dat (.i a), .dat (.i b), .dat (.i n)], .dat (.seq .ints l)] (.dat (.bool (uF ⟨w, mem, inn, c⟩ ⟨k, a, b, n⟩ l))) := by
  refine oV Tryz.func12 ⟨?_⟩
  repeat' (first | ((with_reducible refine fun (K1 : KT) hK => ?_); refine j4 ⟨?_⟩) | ((with_reducible show K1 _ _); subst hK; conv => whnf) | (with_reducible exact rfl) | refine m0 ⟨?_⟩ | ((with_reducible refine SplS.mk (fun h => ?_) (fun h => ?_)) <;> first | exact x5 | (subst h; conv => whnf) | (conv => whnf)) | ((with_reducible first | refine g0 (g := 21) ?_ | show Exists _); refine ⟨_, rN .., rfl, ?_⟩; rotate_right; conv => whnf) | ((with_reducible first | refine g0 (g := 31) ?_ | show Exists _); refine ⟨_, rY .., rfl, ?_⟩; rotate_right; conv => whnf) | ((with_reducible first | refine g0 (g := 32) ?_ | show Exists _); refine ⟨_, mZ (hw := ?_) (hf := ?_) (hl := ?_) .., rfl, ?_⟩; rotate_right; conv => whnf) | (intro h; conv => whnf))
  all_goals repeat clear hK K1
  all_goals first | (simp [uF, *]; done) | (simp_all; done) | (simp_all; done) | (simp_all; omega) | (exact mJ (p := ⟨w, mem, inn, c⟩) (by simp_all))
end Vg
