/- The reference's texts of terms and words: contracts. Condition: texts are not too long. -/
import Derived.Test.YtgbjdifegilniaaGreatDoorTxtP
import Derived.Test.YtgbjdifegilniaaGreatDoorParS
import Derived.Test.YtgbjdifegilniaaGreatDoorTermMB
import Derived.Test.YtgbjdifegilniaaGreatDoorTermRB
import Derived.Test.YtgbjdifegilniaaGreatDoorRg
namespace Vg
open Go Go.Proofs
section
variable {s : ByteArray} {i : Nat} {o : List ByteArray} {wd : ByteArray}
theorem isD_n {c : UInt8} (h40 : ¬ (c.toNat : Int) = 40) (h41 : ¬ (c.toNat : Int) = 41) (h32 : ¬ (c.toNat : Int) = 32) : g9 c = false := by
  have e : c ≠ 32 ∧ c ≠ 40 ∧ c ≠ 41 := by refine ⟨?_, ?_, ?_⟩ <;> rintro rfl <;> first | exact h32 rfl | exact h40 rfl | exact h41 rfl
  unfold g9
  simp [e.1, e.2.1, e.2.2]
theorem c_eq {c : UInt8} {n : Nat} (_hn : n < 256) (h : (c.toNat : Int) = n) : c = UInt8.ofNat n := by
  have : c.toNat = n := by omega
  rw [← this]; simp
theorem d40 {c : UInt8} (h : (c.toNat : Int) = 40) : g9 c = true ∧ c ≠ 32 := by rw [c_eq (n := 40) (by decide) h]; decide
theorem d41 {c : UInt8} (h : (c.toNat : Int) = 41) : g9 c = true ∧ c ≠ 32 := by rw [c_eq (n := 41) (by decide) h]; decide
theorem d32 {c : UInt8} (h : (c.toNat : Int) = 32) : g9 c = true ∧ c = 32 := by rw [c_eq (n := 32) (by decide) h]; decide
end
theorem bdM {a b : Nat} (ha : a ≤ 2097153) (hb : b ≤ 1048577) : a + b ≤ maxLen := by unfold maxLen; omega
end Vg
