/- The reference's reader of terms: contract. Condition: texts are not too long. -/
import Derived.Test.YtgbjdifegilniaaGreatDoorTxtE
namespace Vg
open Go Go.Proofs
/-! ### what the reader leaves -/
theorem SufW.none {ws : List ByteArray} {st : Wds} (h : SufW ws st) : SufW ws none := ⟨fun _ e => (nomatch e), h.len, h.sz⟩
/-! ### how much is left -/
/-! ### the word of an operation -/
theorem nV (tk : Bs) : ∀ k : Nat, k ≤ 21 → yE tk k = 0 ∨ (1 ≤ yE tk k ∧ yE tk k ≤ 21 ∧ j8 (yE tk k) = tk)
  | 0, _ => .inl rfl
  | k + 1, h => by
    rw [yE]
    split
    · next e => exact .inr ⟨by omega, by omega, e⟩
    · exact nV tk k omG
theorem dG (tk : Bs) : s4 tk = 0 ∨ (1 ≤ s4 tk ∧ s4 tk ≤ 21 ∧ j8 (s4 tk) = tk) := nV tk 21 (Nat.le_refl _)
structure OpI (wd : Bs) (j : Nat) (c : Int) : Prop where
  lo : 1 ≤ j
  hi : j ≤ 22
  eq : c = if 1 ≤ s4 wd ∧ s4 wd < j then s4 wd else 0
theorem OpI.zero (wd : Bs) : OpI wd 1 0 := ⟨Nat.le_refl _, by omega, by rw [if_neg omG]⟩
theorem mkB_b {a b : Bs} (h : ((r0 a).toList == (r0 b).toList) = true) : a = b := mkB_inj (str_eq h)
theorem mkB_n {a b : Bs} (h : ((r0 a).toList == (r0 b).toList) = false) : a ≠ b := fun e => str_ne h (by rw [e])
theorem OpI.hit {wd : Bs} {j : Nat} {c : Int} (h : OpI wd j c) (hj : (j : Int) ≤ 21) (e : ((x7 (j : Int)).toList == (r0 wd).toList) = true) : OpI wd (j + 1) (j : Int) := by
  have e2 : j8 (j : Int) = wd := mkB_b e
  have h2 : s4 wd = j := by rw [← e2]; exact (op_R (by have := h.lo; omega) hj).1
  exact ⟨by omega, by omega, by rw [h2, if_pos (by have := h.lo; omega)]⟩
theorem OpI.miss {wd : Bs} {j : Nat} {c : Int} (h : OpI wd j c) (hj : (j : Int) ≤ 21) (e : ((x7 (j : Int)).toList == (r0 wd).toList) = false) : OpI wd (j + 1) c := by
  have hn : s4 wd ≠ j := fun q => by
    rcases dG wd with h0 | ⟨_, _, h3⟩
    · have := h.lo; omega
    · rw [q] at h3; exact mkB_n e h3
  have hl := h.lo
  refine ⟨by omega, by omega, ?_⟩
  rw [h.eq]
  by_cases hc : 1 ≤ s4 wd ∧ s4 wd < j
  · rw [if_pos hc, if_pos omG]
  · rw [if_neg hc, if_neg omG]
theorem OpI.fin {wd : Bs} {j : Nat} {c : Int} (h : OpI wd j c) (hj : ¬ (j : Int) ≤ 21) : c = s4 wd := by
  have hh := h.hi
  rw [h.eq]
  rcases dG wd with h0 | ⟨h1, h2, _⟩
  · rw [if_neg omG, h0]
  · rw [if_pos omG]
end Vg
