/- What the machine's operations hand back are words. No condition. -/
import Derived.Test.YtnjkencoohaheaaMach
namespace Vg
open Go Go.Proofs

theorem ofInt_small {a : Int} (h0 : 0 ≤ a) (h1 : a < 65536) : (BitVec.ofInt IntKind.i64.bits a).toNat = a.toNat := by
  have hb : IntKind.i64.bits = 64 := rfl
  rw [BitVec.toNat_ofInt, hb]
  have : a % ((2 ^ 64 : Nat) : Int) = a := Int.emod_eq_of_lt h0 (by omega)
  rw [this]
theorem wordOf_word {w : Int} (n : Int) (h : inP w 1 16 = true) : wordP w (wordOfP w n) = true := by
  have F := wf h
  have h2 := F.s2
  have h3 := F.s3
  unfold wordOfP
  rw [if_pos h]
  have e1 : (BitVec.ofInt IntKind.i64.bits n &&& BitVec.ofInt IntKind.i64.bits (2 ^ w.toNat - 1)).toNat ≤ ((2 : Int) ^ w.toNat - 1).toNat := by
    rw [BitVec.toNat_and, ofInt_small (a := 2 ^ w.toNat - 1) (by omega) (by omega)]
    exact Nat.and_le_right
  generalize (BitVec.ofInt IntKind.i64.bits n &&& BitVec.ofInt IntKind.i64.bits (2 ^ w.toNat - 1)).toNat = m at e1
  rw [wrap_id (by omega) (by omega)]
  exact word_of h (by omega) (by omega)
theorem pow_int_nat (k : Nat) : ((2 : Int) ^ k).toNat = 2 ^ k := by
  have : ((2 : Int) ^ k) = ((2 ^ k : Nat) : Int) := by simp
  rw [this]; rfl
theorem bits_word {w : Int} {a b : Int} (ha : wordP w a = true) (hb : wordP w b = true) (f : Nat → Nat → Nat) (hf : ∀ x y n, x < 2 ^ n → y < 2 ^ n → f x y < 2 ^ n)
    {v : Nat} (hv : v = f (BitVec.ofInt IntKind.i64.bits a).toNat (BitVec.ofInt IntKind.i64.bits b).toNat) : wordP w (IntKind.i64.wrap (v : Nat)) = true := by
  obtain ⟨hw, a0, a1⟩ := word_lo ha
  obtain ⟨_, b0, b1⟩ := word_lo hb
  have F := wf hw
  have h2 := F.s2
  rw [ofInt_small a0 (by omega), ofInt_small b0 (by omega)] at hv
  have e := pow_int_nat w.toNat
  have := hf a.toNat b.toNat w.toNat (by omega) (by omega)
  subst hv
  generalize f a.toNat b.toNat = m at this
  rw [wrap_id (by omega) (by omega)]
  exact word_of hw (by omega) (by omega)
theorem truth_word {w : Int} (h : inP w 1 16 = true) (b : Bool) : wordP w (truthP b) = true := by
  have F := wf h
  have h3 := F.s3
  cases b
  · exact word_of h (by decide) (by show (0 : Int) < _; omega)
  · exact word_of h (by decide) (by show (1 : Int) < _; omega)
theorem zero_word {w : Int} (h : inP w 1 16 = true) : wordP w 0 = true := truth_word h false
theorem applyB_word {op w a b : Int} (ho : 3 ≤ op ∧ op ≤ 16) (ha : wordP w a = true) (hb : wordP w b = true) : wordP w (applyB op w a b) = true := by
  obtain ⟨hw, a0, a1⟩ := word_lo ha
  obtain ⟨_, b0, b1⟩ := word_lo hb
  have F := wf hw
  have h2 := F.s2
  have h3 := F.s3
  unfold applyB
  rw [if_pos (by simp [ha, hb])]
  have cases_op : op = 3 ∨ op = 4 ∨ op = 5 ∨ op = 6 ∨ op = 7 ∨ op = 8 ∨ op = 9 ∨ op = 10 ∨ op = 11 ∨ op = 12 ∨ op = 13 ∨ op = 14 ∨ op = 15 ∨ op = 16 := by omega
  have hsh : wordP w (shiftP op w a b) = true := by
    unfold shiftP
    by_cases h13 : op = 13
    · rw [if_pos h13]; exact wordOf_word _ hw
    rw [if_neg h13]
    by_cases hwb : w ≤ b
    · rw [if_pos hwb]; exact zero_word hw
    rw [if_neg hwb]
    by_cases h11 : op = 11
    · rw [if_pos h11]; exact wordOf_word _ hw
    rw [if_neg h11]
    have hp : (0 : Int) < 2 ^ min b.toNat IntKind.i64.bits := Int.pow_pos (by decide)
    rw [Int.fdiv_eq_ediv_of_nonneg _ (Int.le_of_lt hp)]
    have e1 := Int.ediv_nonneg a0 (Int.le_of_lt hp)
    have e2 : a / 2 ^ min b.toNat IntKind.i64.bits ≤ a := Int.ediv_le_self _ a0
    exact word_of hw e1 (by omega)
  have hdiv : wordP w (if b = 0 then 2 ^ w.toNat - 1 else IntKind.i64.wrap (a.tdiv b)) = true := by
    by_cases hb0 : b = 0
    · rw [if_pos hb0]; exact word_of hw (by omega) (by omega)
    · rw [if_neg hb0]
      have e1 : 0 ≤ a.tdiv b := Int.tdiv_nonneg a0 b0
      have e2 : a.tdiv b ≤ a := by
        rw [Int.tdiv_eq_ediv_of_nonneg a0]
        exact Int.ediv_le_self b a0
      rw [wrap_id (by omega) (by omega)]
      exact word_of hw e1 (by omega)
  have hrem : wordP w (if b = 0 then a else a.tmod b) = true := by
    by_cases hb0 : b = 0
    · rw [if_pos hb0]; exact ha
    · rw [if_neg hb0]
      have e1 : 0 ≤ a.tmod b := Int.tmod_nonneg b a0
      have e2 : a.tmod b < b := Int.tmod_lt_of_pos a (by omega)
      exact word_of hw e1 (by omega)
  have hand := bits_word ha hb (· &&& ·) (fun x y n hx _ => Nat.lt_of_le_of_lt Nat.and_le_left hx) (v := (BitVec.ofInt IntKind.i64.bits a &&& BitVec.ofInt IntKind.i64.bits b).toNat) (by rw [BitVec.toNat_and])
  have hor := bits_word ha hb (· ||| ·) (fun x y n hx hy => Nat.or_lt_two_pow hx hy) (v := (BitVec.ofInt IntKind.i64.bits a ||| BitVec.ofInt IntKind.i64.bits b).toNat) (by rw [BitVec.toNat_or])
  have hxor := bits_word ha hb (· ^^^ ·) (fun x y n hx hy => Nat.xor_lt_two_pow hx hy) (v := (BitVec.ofInt IntKind.i64.bits a ^^^ BitVec.ofInt IntKind.i64.bits b).toNat) (by rw [BitVec.toNat_xor])
  generalize IntKind.i64.wrap (BitVec.ofInt IntKind.i64.bits a &&& BitVec.ofInt IntKind.i64.bits b).toNat = v1 at hand ⊢
  generalize IntKind.i64.wrap (BitVec.ofInt IntKind.i64.bits a ||| BitVec.ofInt IntKind.i64.bits b).toNat = v2 at hor ⊢
  generalize IntKind.i64.wrap (BitVec.ofInt IntKind.i64.bits a ^^^ BitVec.ofInt IntKind.i64.bits b).toNat = v3 at hxor ⊢
  generalize (if b = 0 then 2 ^ w.toNat - 1 else IntKind.i64.wrap (a.tdiv b)) = v4 at hdiv ⊢
  generalize (if b = 0 then a else a.tmod b) = v5 at hrem ⊢
  generalize hv6 : shiftP op w a b = v6 at hsh ⊢
  have t1 := truth_word hw (a == b)
  have t2 := truth_word hw (decide (a < b))
  have t3 := truth_word hw (decide (signedP w a < signedP w b))
  have m1 := wordOf_word (IntKind.i64.wrap (a + b)) hw
  have m2 := wordOf_word (IntKind.i64.wrap (a - b)) hw
  have m3 := wordOf_word (IntKind.i64.wrap (a * b)) hw
  rcases cases_op with rfl | rfl | rfl | rfl | rfl | rfl | rfl | rfl | rfl | rfl | rfl | rfl | rfl | rfl <;> first | exact m1 | exact m2 | exact m3 | exact hdiv | exact hrem | exact hand | exact hor | exact hxor | exact hsh | exact t1 | exact t2 | exact t3
theorem applyU_word {w a : Int} (ha : wordP w a = true) : wordP w (applyU 1 w a) = true := by
  obtain ⟨hw, a0, a1⟩ := word_lo ha
  unfold applyU
  rw [if_pos ha, if_pos rfl]
  exact word_of hw (by omega) (by omega)
end Vg
