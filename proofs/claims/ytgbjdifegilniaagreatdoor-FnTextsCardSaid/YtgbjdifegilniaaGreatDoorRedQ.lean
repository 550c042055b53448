/- What the machine's operations hand back are words. No condition. -/
import Derived.Test.YtgbjdifegilniaaGreatDoorWords
import Derived.Test.YtgbjdifegilniaaGreatDoorTermI
import Derived.Lib.Strings
namespace Vg
open Go Go.Proofs
theorem qcq {a : Int} (h0 : 0 ≤ a) (h1 : a < 65536) : (BitVec.ofInt IntKind.i64.bits a).toNat = a.toNat := by
  have hb : IntKind.i64.bits = 64 := rfl
  rw [BitVec.toNat_ofInt, hb]
  have : a % ((2 ^ 64 : Nat) : Int) = a := Int.emod_eq_of_lt h0 omG
  rw [this]
theorem qbe {w : Int} (n : Int) (h : inP w 1 16 = true) : wordP w (gD w n) = true := by
  have F := wf h
  have h2 := F.s2
  have h3 := F.s3
  unfold gD
  rw [if_pos h]
  have e1 : (BitVec.ofInt IntKind.i64.bits n &&& BitVec.ofInt IntKind.i64.bits (2 ^ w.toNat - 1)).toNat ≤ ((2 : Int) ^ w.toNat - 1).toNat := by
    rw [BitVec.toNat_and, qcq (a := 2 ^ w.toNat - 1) omG omG]
    exact Nat.and_le_right
  generalize (BitVec.ofInt IntKind.i64.bits n &&& BitVec.ofInt IntKind.i64.bits (2 ^ w.toNat - 1)).toNat = m at e1
  rw [z1 omG omG]
  exact word_of h omG omG
/-! ### strings in order -/
theorem bl_eq : ∀ (x y : List UInt8), Op.bytesLess x y = decide (x < y)
  | [], [] => by simp [Op.bytesLess]
  | _ :: _, [] => by simp [Op.bytesLess]
  | [], _ :: _ => by simp [Op.bytesLess]
  | a :: x, b :: y => by
    rw [Op.bytesLess, bl_eq x y]
    simp only [List.cons_lt_cons_iff]
    by_cases h1 : a < b <;> by_cases h2 : a = b <;> by_cases h3 : x < y <;> simp [h1, h2, h3]
def g7 (a b : ByteArray) : Bool := Op.bytesLess a.toList b.toList
theorem yF {a b : ByteArray} : g7 a b = true ↔ a.data.toList < b.data.toList := by
  unfold g7
  rw [bl_eq, Lib.toList_data, Lib.toList_data, decide_eq_true_iff]
theorem ba_ext {a b : ByteArray} (h : a.data.toList = b.data.toList) : a = b := ByteArray.ext (Array.ext' h)
theorem uT (a : ByteArray) : g7 a a = false := by
  rw [Bool.eq_false_iff]
  intro h
  exact List.lt_irrefl _ (yF.1 h)
theorem sT {a b c : ByteArray} (h1 : g7 a b = true) (h2 : g7 b c = true) : g7 a c = true := yF.2 (List.lt_trans (yF.1 h1) (yF.1 h2))
theorem tT {a b : ByteArray} (hn : a ≠ b) (h : g7 a b = false) : g7 b a = true := by
  rw [Bool.eq_false_iff] at h
  refine yF.2 ?_
  have h1 : ¬ a.data.toList < b.data.toList := fun k => h (yF.2 k)
  rcases List.le_iff_lt_or_eq.1 (List.not_lt.1 h1) with h2 | h2
  · exact h2
  · exact absurd (ba_ext h2.symm) hn
/-! ### numbers and terms in order -/
def sgn (a b : Int) : Int := if a < b then -1 else if b < a then 1 else 0
/-! ### kid by kid -/
section
variable {a b : V.Term} {i : Nat}
end
abbrev cT (w n : Int) : V.Term := ⟨0, w, n, ByteArray.empty, []⟩
/-! ### what is known of a good term -/
theorem eG (t : V.Term) : okT t = (zA t.op t.w t.n t.name t.kids && (!decide (t.op = 22) || isNameP t.name) && okTs t.kids) := by cases t; rw [okT]
theorem sD : ∀ {ks : List V.Term} {i : Nat}, okTs ks = true → i < ks.length → okT (kAt ks i) = true
  | t :: ts, 0, h, _ => by rw [okTs, Bool.and_eq_true] at h; exact h.1
  | t :: ts, i + 1, h, hi => by rw [okTs, Bool.and_eq_true] at h; exact sD (ks := ts) (i := i) h.2 (by simpa using hi)
theorem gC {t : V.Term} (h : okT t = true) : NodeOk t.op t.w t.n t.name t.kids := by
  rw [eG, Bool.and_eq_true, Bool.and_eq_true] at h
  exact mB.1 h.1.1
theorem sI {t : V.Term} (h : okT t = true) : okTs t.kids = true := by
  rw [eG, Bool.and_eq_true] at h
  exact h.2
theorem okT_k {t : V.Term} {i : Nat} (h : okT t = true) (hi : i < t.kids.length) : okT (kAt t.kids i) = true := sD (sI h) hi
theorem y9 {n lo hi : Int} : inP n lo hi = true ↔ lo ≤ n ∧ n ≤ hi := by simp [inP]
theorem bL {t : V.Term} (h : okT t = true) : 1 ≤ t.w ∧ t.w ≤ 16 := y9.1 (gC h).width
theorem cL {t : V.Term} (h : okT t = true) : 0 ≤ t.op ∧ t.op ≤ 22 := by
  have := (gC h).len
  unfold e8 at this
  repeat' split at this
  all_goals omega
theorem ks1 {l : List V.Term} (h : (l.length : Int) = 1) : l = [kAt l 0] := by
  match l, h with
  | [a], _ => rfl
  | [], h => simp at h
  | _ :: _ :: _, h => simp at h; omega
abbrev k0 (t : V.Term) : V.Term := kAt t.kids 0
abbrev k1 (t : V.Term) : V.Term := kAt t.kids 1
abbrev k2 (t : V.Term) : V.Term := kAt t.kids 2
section
variable {t : V.Term}
end
/-! ### values -/
/-! ### the rules -/
def swaps (op : Int) : Prop := op = 3 ∨ op = 5 ∨ op = 8 ∨ op = 9 ∨ op = 10 ∨ op = 14
instance (op : Int) : Decidable (swaps op) := by unfold swaps; infer_instance
theorem sz_kids (t : V.Term) : sizeT t = 1 + d5 t.kids := by cases t; rw [sizeT]
section
variable {t : V.Term}
end
/-! ### all rules, one after the other -/
section
variable {t x : V.Term}
end
end Vg
