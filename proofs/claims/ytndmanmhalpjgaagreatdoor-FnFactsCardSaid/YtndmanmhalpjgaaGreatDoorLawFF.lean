/- Facts are printed: contracts of FormatFact, and of the law FnExactFormatFact. Condition: lists are no longer than the law lets through. -/
import Derived.Test.YtndmanmhalpjgaaGreatDoorFmt
namespace Vg
open Go Go.Proofs
set_option maxRecDepth 100000
set_option maxHeartbeats 40000000
def sp1 : ByteArray := ⟨#[32]⟩
def qA (f : V.Fact) : ByteArray := ((i6 f.a ++ sp1) ++ i8 f.kind) ++ sp1
def gB (f : V.Fact) : ByteArray :=
  if f.kind = 1 ∨ f.kind = 3 then qA f ++ p5 f.n
  else if f.kind = 4 then ((qA f ++ p5 f.b) ++ sp1) ++ p5 f.n
  else if f.kind = 5 then ((qA f ++ i6 f.b) ++ sp1) ++ p5 f.n
  else qA f ++ i6 f.b
def b8 (p : V.Prog) (f : V.Fact) : ByteArray := if (progP p && factP p.w f) = true then gB f else ⟨#[]⟩
theorem pw_max {w : Int} (h : 2 ≤ w ∧ w ≤ 8) : (2 : Int) ^ w.toNat ≤ 256 := by
  have : w.toNat < 9 := by omega
  generalize w.toNat = k at this
  have : ∀ k < 9, (2 : Int) ^ k ≤ 256 := by decide
  exact this k (by assumption)
structure FactR (f : V.Fact) : Prop where
  k : 1 ≤ f.kind ∧ f.kind ≤ 6
  a : 0 ≤ f.a ∧ f.a < 4
  b : 0 ≤ f.b ∧ f.b < 8
  n : 0 ≤ f.n ∧ f.n < 256
theorem fO {p : V.Prog} {f : V.Fact} (h : (progP p && factP p.w f) = true) : FactR f := by
  rw [Bool.and_eq_true] at h
  obtain ⟨hp, h⟩ := h
  have hr := sM hp
  have hw := pw_max hr
  obtain ⟨k, a, b, n⟩ := f
  simp only [factP] at h
  split at h
  · cases h
  rename_i hr1
  have hr' : regP a = true := by cases e : regP a with
    | true => rfl
    | false => exact absurd e hr1
  have ha : 0 ≤ a ∧ a < 4 := by simp [regP, inP] at hr'; omega
  have key : (1 ≤ k ∧ k ≤ 6) ∧ (0 ≤ b ∧ b < 8) ∧ 0 ≤ n ∧ n < 256 := by
    split at h
    · rename_i hk; simp only [wordP, inP, Bool.and_eq_true, decide_eq_true_eq] at h; omega
    split at h
    · rename_i hk; simp only [regP, inP, Bool.and_eq_true, decide_eq_true_eq] at h; omega
    split at h
    · rename_i hk; simp only [wordP, inP, Bool.and_eq_true, decide_eq_true_eq] at h; omega
    split at h
    · rename_i hk; simp only [inP, Bool.and_eq_true, decide_eq_true_eq] at h; omega
    split at h
    · rename_i hk; simp only [wordP, regP, inP, Bool.and_eq_true, decide_eq_true_eq] at h; omega
    split at h
    · rename_i hk; simp only [regP, inP, Bool.and_eq_true, decide_eq_true_eq] at h; omega
    · cases h
  exact ⟨key.1, ha, key.2.1, key.2.2⟩
theorem fmt_no {p : V.Prog} {f : V.Fact} (h : (progP p && factP p.w f) = false) : Dat.str (b8 p f) = Dat.str ⟨#[]⟩ := by unfold b8; rw [h]; rfl
theorem iE {p : V.Prog} {f : V.Fact} (h : (progP p && factP p.w f) = true) : b8 p f = gB f := by unfold b8; rw [if_pos h]
section
variable {p : V.Prog} {k a b n : Int}
theorem ff_1 (h : (progP p && factP p.w ⟨1, a, b, n⟩) = true) : Dat.str (b8 p ⟨1, a, b, n⟩) = Dat.str (qA ⟨1, a, b, n⟩ ++ p5 n) := by rw [iE h]; rfl
theorem ff_3 (h : (progP p && factP p.w ⟨3, a, b, n⟩) = true) : Dat.str (b8 p ⟨3, a, b, n⟩) = Dat.str (qA ⟨3, a, b, n⟩ ++ p5 n) := by rw [iE h]; rfl
theorem ff_4 (h : (progP p && factP p.w ⟨4, a, b, n⟩) = true) : Dat.str (b8 p ⟨4, a, b, n⟩) = Dat.str (((qA ⟨4, a, b, n⟩ ++ p5 b) ++ sp1) ++ p5 n) := by rw [iE h]; rfl
theorem ff_5 (h : (progP p && factP p.w ⟨5, a, b, n⟩) = true) : Dat.str (b8 p ⟨5, a, b, n⟩) = Dat.str (((qA ⟨5, a, b, n⟩ ++ i6 b) ++ sp1) ++ p5 n) := by rw [iE h]; rfl
theorem ff_r (h : (progP p && factP p.w ⟨k, a, b, n⟩) = true) (h1 : ¬ k = 1) (h3 : ¬ k = 3) (h4 : ¬ k = 4) (h5 : ¬ k = 5) : Dat.str (b8 p ⟨k, a, b, n⟩) = Dat.str (qA ⟨k, a, b, n⟩ ++ i6 b) := by
  rw [iE h]; unfold gB
  rw [if_neg (by simp only; omega), if_neg h4, if_neg h5]
end
theorem qac {f : V.Fact} (h : FactR f) : (qA f).size ≤ 11 := by
  have h1 := aF (n := f.a) h.a.1 (by have := h.a; omega)
  have h2 := yF f.kind
  unfold qA
  have e : sp1.size = 1 := rfl
  rw [ByteArray.size_append, ByteArray.size_append, ByteArray.size_append, e]
  omega
structure FactB (a b n : Int) : Prop where
  a : 0 ≤ a ∧ a < 1000
  b : 0 ≤ b ∧ b < 1000
  n : 0 ≤ n ∧ n < 1000
theorem fcb_b {p : V.Prog} {k a b n : Int} (h : (progP p && factP p.w ⟨k, a, b, n⟩) = true) : FactB a b n := by
  have q := fO h
  have := q.a; have := q.b; have := q.n
  simp only at *
  exact ⟨by omega, by omega, by omega⟩
theorem jT (w mem inn : Int) (code : List V.Ins) (k a b n : Int) : CallsV Tryz.prog 7 [.agg [.dat (.i w), .dat (.i mem), .dat (.i inn), .dat (.seq .inss code)], .agg [.dat (.i k), .dat (.i a), .dat (.i b), .dat (.i n)]] (.dat (.str (b8 ⟨w, mem, inn, code⟩ ⟨k, a, b, n⟩))) := by
  refine oV Tryz.func7 ⟨?_⟩
  repeat' (first | ((with_reducible refine fun (K1 : KT) hK => ?_); refine j4 ⟨?_⟩) | ((with_reducible show K1 _ _); subst hK; conv => whnf) | (with_reducible exact rfl) | refine m0 ⟨?_⟩ | ((with_reducible refine SplS.mk (fun h => ?_) (fun h => ?_)) <;> first | exact z1 | (subst h; conv => whnf) | (conv => whnf)) | refine u2 ⟨?_⟩ ⟨?_⟩ | ((with_reducible first | refine g0 (g := 21) ?_ | show Exists _); refine ⟨_, rN .., rfl, ?_⟩; rotate_right; conv => whnf) | ((with_reducible first | refine g0 (g := 22) ?_ | show Exists _); refine ⟨_, xY (h0 := ?_) (h1 := ?_) .., rfl, ?_⟩; rotate_right; conv => whnf) | ((with_reducible first | refine g0 (g := 20) ?_ | show Exists _); refine ⟨_, fT .., rfl, ?_⟩; rotate_right; conv => whnf) | ((with_reducible first | refine g0 (g := 23) ?_ | show Exists _); refine ⟨_, iT (h0 := ?_) (h1 := ?_) .., rfl, ?_⟩; rotate_right; conv => whnf) | (intro h; conv => whnf))
  all_goals repeat clear hK K1
  all_goals first | (with_reducible assumption) | exact fmt_no (p := ⟨w, mem, inn, code⟩) asmR | exact ff_1 (p := ⟨w, mem, inn, code⟩) asmR | exact ff_3 (p := ⟨w, mem, inn, code⟩) asmR | exact ff_4 (p := ⟨w, mem, inn, code⟩) asmR | exact ff_5 (p := ⟨w, mem, inn, code⟩) asmR | exact ff_r (p := ⟨w, mem, inn, code⟩) asmR asmR asmR asmR asmR | (have q := fcb_b (p := ⟨w, mem, inn, code⟩) (show (progP _ && factP _ _) = true by with_reducible assumption); have q1 := q.a; have q2 := q.b; have q3 := q.n; first | omega | (have r1 := aF q1.1 q1.2; have r2 := aF q2.1 q2.2; have r3 := mD q2.1 q2.2; have r4 := mD q3.1 q3.2; have r5 := yF 1; have r6 := yF 3; have r7 := yF 4; have r8 := yF 5; have hm : maxLen = 9223372036854775807 := rfl; have hs : (⟨#[32]⟩ : ByteArray).size = 1 := rfl; simp only [ByteArray.size_append, hs]; omega) | (have r1 := aF q1.1 q1.2; have r2 := aF q2.1 q2.2; have r3 := mD q2.1 q2.2; have r4 := mD q3.1 q3.2; have r5 := yF k; have hm : maxLen = 9223372036854775807 := rfl; have hs : (⟨#[32]⟩ : ByteArray).size = 1 := rfl; simp only [ByteArray.size_append, hs]; omega)) | skip
section
variable {a b n k : Int}
end
end Vg
