/- Facts are printed: contracts of FormatFact, and of the law FnExactFormatFact. Condition: lists are no longer than the law lets through. -/
import Derived.Test.YtgbjdifegilniaaGreatDoorFmt
namespace Vg
open Go Go.Proofs
def sp1 : ByteArray := ⟨#[32]⟩
def xG (f : V.Fact) : ByteArray := ((o5 f.a ++ sp1) ++ xB f.kind) ++ sp1
def pC (f : V.Fact) : ByteArray :=
  if f.kind = 1 ∨ f.kind = 3 then xG f ++ s1 f.n
  else if f.kind = 4 then ((xG f ++ s1 f.b) ++ sp1) ++ s1 f.n
  else if f.kind = 5 then ((xG f ++ o5 f.b) ++ sp1) ++ s1 f.n
  else xG f ++ o5 f.b
def fmtS (p : V.Prog) (f : V.Fact) : ByteArray := if (p4 p && bB p.w f) = true then pC f else ⟨#[]⟩
theorem pw_max {w : Int} (h : 2 ≤ w ∧ w ≤ 8) : (2 : Int) ^ w.toNat ≤ 256 := by
  have : w.toNat < 9 := by omega
  generalize w.toNat = k at this
  have : ∀ k < 9, (2 : Int) ^ k ≤ 256 := by decide
  exact this k (by assumption)
structure FactR (f : V.Fact) : Prop where
  k : 1 ≤ f.kind ∧ f.kind ≤ 6
  a : 0 ≤ f.a ∧ f.a < 4
  b : 0 ≤ f.b ∧ f.b < 8
  n : 0 ≤ f.n ∧ f.n < 256
theorem fcb_r {p : V.Prog} {f : V.Fact} (h : (p4 p && bB p.w f) = true) : FactR f := by
  rw [Bool.and_eq_true] at h
  obtain ⟨hp, h⟩ := h
  have hr := cV hp
  have hw := pw_max hr
  obtain ⟨k, a, b, n⟩ := f
  simp only [bB] at h
  split at h
  · cases h
  rename_i hr1
  have hr' : regP a = true := by cases e : regP a with
    | true => rfl
    | false => exact absurd e hr1
  have ha : 0 ≤ a ∧ a < 4 := by simp [regP, inP] at hr'; omega
  have key : (1 ≤ k ∧ k ≤ 6) ∧ (0 ≤ b ∧ b < 8) ∧ 0 ≤ n ∧ n < 256 := by
    split at h
    · rename_i hk; simp only [wordP, inP, Bool.and_eq_true, decide_eq_true_eq] at h; omega
    split at h
    · rename_i hk; simp only [regP, inP, Bool.and_eq_true, decide_eq_true_eq] at h; omega
    split at h
    · rename_i hk; simp only [wordP, inP, Bool.and_eq_true, decide_eq_true_eq] at h; omega
    split at h
    · rename_i hk; simp only [inP, Bool.and_eq_true, decide_eq_true_eq] at h; omega
    split at h
    · rename_i hk; simp only [wordP, regP, inP, Bool.and_eq_true, decide_eq_true_eq] at h; omega
    split at h
    · rename_i hk; simp only [regP, inP, Bool.and_eq_true, decide_eq_true_eq] at h; omega
    · cases h
  exact ⟨key.1, ha, key.2.1, key.2.2⟩
theorem fmt_y {p : V.Prog} {f : V.Fact} (h : (p4 p && bB p.w f) = true) : fmtS p f = pC f := by unfold fmtS; rw [if_pos h]
section
variable {p : V.Prog} {k a b n : Int}
end
section
variable {a b n k : Int}
end
end Vg
