/- Terms in order: the plain law of the comparison. No condition. -/
import Derived.Test.YtcdepophgnlphaaDoorTermI
import Derived.Lib.Strings
import Derived.Test.YtcdepophgnlphaaDoorWords
namespace Vg
open Go Go.Proofs
/-! ### strings in order -/
theorem bl_eq : ∀ (x y : List UInt8), Op.bytesLess x y = decide (x < y)
  | [], [] => by simp [Op.bytesLess]
  | _ :: _, [] => by simp [Op.bytesLess]
  | [], _ :: _ => by simp [Op.bytesLess]
  | a :: x, b :: y => by
    rw [Op.bytesLess, bl_eq x y]
    simp only [List.cons_lt_cons_iff]
    by_cases h1 : a < b <;> by_cases h2 : a = b <;> by_cases h3 : x < y <;> simp [h1, h2, h3]
def i6 (a b : ByteArray) : Bool := Op.bytesLess a.toList b.toList
theorem yD {a b : ByteArray} : i6 a b = true ↔ a.data.toList < b.data.toList := by
  unfold i6
  rw [bl_eq, Lib.toList_data, Lib.toList_data, decide_eq_true_iff]
theorem ba_ext {a b : ByteArray} (h : a.data.toList = b.data.toList) : a = b := ByteArray.ext (Array.ext' h)
theorem yQ (a : ByteArray) : i6 a a = false := by
  rw [Bool.eq_false_iff]
  intro h
  exact List.lt_irrefl _ (yD.1 h)
theorem wQ {a b c : ByteArray} (h1 : i6 a b = true) (h2 : i6 b c = true) : i6 a c = true := yD.2 (List.lt_trans (yD.1 h1) (yD.1 h2))
theorem xQ {a b : ByteArray} (hn : a ≠ b) (h : i6 a b = false) : i6 b a = true := by
  rw [Bool.eq_false_iff] at h
  refine yD.2 ?_
  have h1 : ¬ a.data.toList < b.data.toList := fun k => h (yD.2 k)
  rcases List.le_iff_lt_or_eq.1 (List.not_lt.1 h1) with h2 | h2
  · exact h2
  · exact absurd (ba_ext h2.symm) hn
/-! ### numbers and terms in order -/
def sgn (a b : Int) : Int := if a < b then -1 else if b < a then 1 else 0
/-! ### kid by kid -/
section
variable {a b : V.Term} {i : Nat}
end
abbrev cT (w n : Int) : V.Term := ⟨0, w, n, ByteArray.empty, []⟩
/-! ### what is known of a good term -/
theorem dE (t : V.Term) : okT t = (r9 t.op t.w t.n t.name t.kids && (!decide (t.op = 22) || isNameP t.name) && okTs t.kids) := by cases t; rw [okT]
theorem mA : ∀ {ks : List V.Term} {i : Nat}, okTs ks = true → i < ks.length → okT (kAt ks i) = true
  | t :: ts, 0, h, _ => by rw [okTs, Bool.and_eq_true] at h; exact h.1
  | t :: ts, i + 1, h, hi => by rw [okTs, Bool.and_eq_true] at h; exact mA (ks := ts) (i := i) h.2 (by simpa using hi)
theorem q9 {t : V.Term} (h : okT t = true) : NodeOk t.op t.w t.n t.name t.kids := by
  rw [dE, Bool.and_eq_true, Bool.and_eq_true] at h
  exact gA.1 h.1.1
theorem lB {t : V.Term} (h : okT t = true) : okTs t.kids = true := by
  rw [dE, Bool.and_eq_true] at h
  exact h.2
theorem fJ {t : V.Term} {i : Nat} (h : okT t = true) (hi : i < t.kids.length) : okT (kAt t.kids i) = true := mA (lB h) hi
theorem w7 {n lo hi : Int} : inP n lo hi = true ↔ lo ≤ n ∧ n ≤ hi := by simp [inP]
theorem eJ {t : V.Term} (h : okT t = true) : 1 ≤ t.w ∧ t.w ≤ 16 := w7.1 (q9 h).width
theorem cD {t : V.Term} (h : okT t = true) : 0 ≤ t.op ∧ t.op ≤ 22 := by
  have := (q9 h).len
  unfold j6 at this
  repeat' split at this
  all_goals omega
abbrev k0 (t : V.Term) : V.Term := kAt t.kids 0
abbrev k1 (t : V.Term) : V.Term := kAt t.kids 1
abbrev k2 (t : V.Term) : V.Term := kAt t.kids 2
section
variable {t : V.Term}
end
/-! ### values -/
/-! ### the rules -/
def swaps (op : Int) : Prop := op = 3 ∨ op = 5 ∨ op = 8 ∨ op = 9 ∨ op = 10 ∨ op = 14
instance (op : Int) : Decidable (swaps op) := by unfold swaps; infer_instance
theorem gQ (t : V.Term) : sizeT t = 1 + d3 t.kids := by cases t; rw [sizeT]
section
variable {t : V.Term}
end
/-! ### all rules, one after the other -/
section
variable {t x : V.Term}
end
end Vg
