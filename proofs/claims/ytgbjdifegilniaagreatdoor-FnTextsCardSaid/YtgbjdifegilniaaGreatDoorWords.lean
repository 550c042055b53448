/- Words: contracts of the reference's and the program's functions that compute with them. No condition. -/
import Derived.Test.YtgbjdifegilniaaGreatDoorBase
namespace Vg
open Go Go.Proofs
theorem uw0 {b : Int} (h : inP b 0 15 = true) : IntKind.u64.wrap b = b := by
  have h' : 0 ≤ b ∧ b ≤ 15 := by simpa [inP] using h
  have h2 : b.toNat < 16 := by omega
  have e : b = (b.toNat : Int) := by omega
  rw [e]
  revert h2
  generalize b.toNat = k
  intro h
  have : ∀ k < 16, IntKind.u64.wrap ((k : Nat) : Int) = k := by decide
  exact this k h
def gD (w n : Int) : Int := if inP w 1 16 = true then IntKind.i64.wrap (BitVec.ofInt IntKind.i64.bits n &&& BitVec.ofInt IntKind.i64.bits (2 ^ w.toNat - 1)).toNat else -1
theorem qbf {w n : Int} (h : inP w 1 16 = false) : gD w n = -1 := by
  unfold gD
  rw [if_neg (by simp [h])]
theorem qbd {w n : Int} (h : inP w 1 16 = true) : gD w n = IntKind.i64.wrap (BitVec.ofInt IntKind.i64.bits n &&& BitVec.ofInt IntKind.i64.bits (IntKind.i64.wrap (IntKind.i64.wrap (1 * 2 ^ min w.toNat IntKind.i64.bits) - 1))).toNat := by
  unfold gD
  rw [if_pos h, shl1 h, top1 h]
set_option maxRecDepth 100000 in
theorem qb3 (w n : Int) : CallsV Tryz.prog 86 [.dat (.i w), .dat (.i n)] (.dat (.i (gD w n))) := by
  refine oV Tryz.func86 ⟨?_⟩
  repeat' (first | ((with_reducible refine fun (K1 : KT) hK => ?_); refine j6 ⟨?_⟩) | ((with_reducible show K1 _ _); subst hK; conv => whnf) | (with_reducible exact rfl) | refine y5 ⟨?_⟩ | ((with_reducible refine SplS.mk (fun h => ?_) (fun h => ?_)) <;> first | exact aA | (subst h; conv => whnf) | (conv => whnf)) | refine p3 ⟨?_⟩ ⟨?_⟩ | ((with_reducible first | refine s0 (g := 56) ?_ | show Exists _); refine ⟨_, rE .., rfl, ?_⟩; rotate_right; conv => whnf) | (intro h; conv => whnf))
  all_goals repeat clear hK K1
  · rw [qbf h]
  · rw [qbd h]
  · simp [inP] at h; omega
structure WF (w : Int) : Prop where
  lo : 1 ≤ w
  hi : w ≤ 16
  wm : IntKind.i64.wrap (w - 1) = w - 1
  um : IntKind.u64.wrap (w - 1) = w - 1
  u : IntKind.u64.wrap w = w
  s : IntKind.i64.wrap (1 * 2 ^ min w.toNat IntKind.i64.bits) = 2 ^ w.toNat
  s2 : (2 : Int) ^ w.toNat ≤ 65536
  s3 : (2 : Int) ≤ 2 ^ w.toNat
  mn : min (w - 1).toNat IntKind.i64.bits = (w - 1).toNat
  half : (2 : Int) ^ w.toNat = 2 * 2 ^ (w - 1).toNat
theorem wf {w : Int} (h : inP w 1 16 = true) : WF w := by
  have hu := uw h
  have hs := shl1 h
  simp [inP] at h
  have h1 : (w.toNat : Int) = w := by omega
  have h2 : w.toNat ≤ 16 := by omega
  have h3 : 1 ≤ w.toNat := by omega
  have e : w = ((w.toNat : Nat) : Int) := h1.symm
  have h4 : (w - 1).toNat = w.toNat - 1 := by omega
  refine ⟨by omega, by omega, z1 omG omG, ?_, hu, hs, ?_, ?_, ?_, ?_⟩
  · have : inP (w - 1) 0 15 = true := by simp [inP]; omega
    exact uw0 this
  · have : ∀ k ≤ 16, (2 : Int) ^ k ≤ 65536 := by decide
    exact this _ h2
  · have : ∀ k ≤ 16, 1 ≤ k → (2 : Int) ≤ 2 ^ k := by decide
    exact this _ h2 h3
  · have : IntKind.i64.bits = 64 := rfl
    omega
  · rw [h4]
    have : ∀ k ≤ 16, 1 ≤ k → (2 : Int) ^ k = 2 * 2 ^ (k - 1) := by decide
    exact this _ h2 h3
theorem word_lo {w a : Int} (h : wordP w a = true) : inP w 1 16 = true ∧ 0 ≤ a ∧ a < 2 ^ w.toNat := by
  simp only [wordP, Bool.and_eq_true] at h
  refine ⟨h.1, ?_⟩
  have := h.2
  simp [inP] at this
  omega
theorem word_of {w a : Int} (h : inP w 1 16 = true) (h0 : 0 ≤ a) (h1 : a < 2 ^ w.toNat) : wordP w a = true := by
  simp only [wordP, h, Bool.true_and]
  simp [inP]; omega
end Vg
