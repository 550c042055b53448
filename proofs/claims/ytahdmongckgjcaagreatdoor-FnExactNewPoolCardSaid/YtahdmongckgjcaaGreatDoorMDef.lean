/- The machine in plain words: why an instruction cannot be done, what it does, a step. No condition. -/
import Derived.Test.YtahdmongckgjcaaGreatDoorRedQ
namespace Vg
open Go Go.Proofs

theorem ins_a {op a b d w n : Int} (h : insP ⟨op, a, b, d⟩ w n = true) (ho : op = 1 ∨ op = 2 ∨ op = 3 ∨ op = 4 ∨ op = 5 ∨ op = 6 ∨ op = 7 ∨ op = 8 ∨ op = 10 ∨ op = 13) : 0 ≤ a ∧ a < 4 := by
  rcases ho with rfl | rfl | rfl | rfl | rfl | rfl | rfl | rfl | rfl | rfl <;> simp [insP, regP, inP] at h <;> omega
theorem ins_b {op a b d w n : Int} (h : insP ⟨op, a, b, d⟩ w n = true) (ho : op = 2 ∨ op = 3 ∨ op = 7 ∨ op = 8) : 0 ≤ b ∧ b < 4 := by
  rcases ho with rfl | rfl | rfl | rfl <;> simp [insP, regP, inP] at h <;> omega
end Vg
