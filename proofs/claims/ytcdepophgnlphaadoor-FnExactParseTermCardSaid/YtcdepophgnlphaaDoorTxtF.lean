/- The reference's reader of terms: contract. Condition: texts are not too long. -/
import Derived.Test.YtcdepophgnlphaaDoorTxtE
namespace Vg
open Go Go.Proofs
/-! ### what the reader leaves -/
theorem SufW.none {ws : List ByteArray} {st : Wds} (h : SufW ws st) : SufW ws none := ⟨fun _ e => (nomatch e), h.len, h.sz⟩
theorem zT {ws : List ByteArray} {rec : Wds → V.Term × Wds} (hr : ∀ st, SufW ws st → SufW ws (rec st).2) : ∀ (g : Nat) (st : Wds) (acc : List V.Term), SufW ws st → SufW ws (z7 rec g st acc).2
  | 0, st, acc, h => h
  | g + 1, none, acc, h => h
  | g + 1, some [], acc, h => h
  | g + 1, some (x :: l), acc, h => by
    rw [z7]
    split
    · exact h
    · exact zT hr g _ _ (hr _ h)
def u6 (st : Wds) : Bs := (j3 (j3 st).2).1
def m8 (st : Wds) : Wds := (j3 (j3 st).2).2
noncomputable def b8 (st : Wds) : Int × Wds := if u1 (u6 st) = 19 then v7 (m8 st) else (0, m8 st)
noncomputable def wq4 (st : Wds) : Int × Wds := if 19 ≤ u1 (u6 st) ∧ u1 (u6 st) ≤ 21 then v7 (b8 st).2 else (0, (b8 st).2)
theorem xF {f : Nat} {st : Wds} (h : (j3 st).1 ≠ [40]) : termS f st = ((x6 (j3 st).1).1, if (x6 (j3 st).1).2 = true then (j3 st).2 else none) := by
  cases f <;> (rw [termS, stepS, if_pos h])
theorem xB {f : Nat} {st : Wds} (h : (j3 st).1 = [40]) (h2 : u1 (u6 st) = 0 ∨ f = 0) : termS f st = (⟨u1 (u6 st), 0, 0, ByteArray.empty, []⟩, none) := by
  cases f with
  | zero => rw [termS, stepS, if_neg (fun q => q h)]; rfl
  | succ f =>
    have h0 : u1 (u6 st) = 0 := h2.resolve_right omG
    rw [termS, stepS, if_neg (fun q => q h)]
    exact if_pos h0
theorem oI {f : Nat} {st : Wds} (h : (j3 st).1 = [40]) (h0 : u1 (u6 st) ≠ 0) : termS (f + 1) st = j9 (u1 (u6 st)) (wq4 st).1 (b8 st).1 (z7 (termS f) (r5 (wq4 st).2) (wq4 st).2 []) := by
  rw [termS, stepS, if_neg (fun q => q h)]
  exact if_neg h0
theorem tS {ws : List ByteArray} {st : Wds} (h : SufW ws st) : SufW ws (b8 st).2 := by
  unfold b8
  split
  · exact SufW.int (h.nx.nx)
  · exact h.nx.nx
theorem vK {ws : List ByteArray} {st : Wds} (h : SufW ws st) : SufW ws (wq4 st).2 := by
  unfold wq4
  split
  · exact SufW.int (tS h)
  · exact tS h
theorem qbp {ws : List ByteArray} {op w n : Int} {x : List V.Term × Wds} (h : SufW ws x.2) : SufW ws (j9 op w n x).2 := by
  unfold j9
  split
  · exact h.none
  · exact h.nx
theorem SufW.term {ws : List ByteArray} : ∀ (f : Nat) (st : Wds), SufW ws st → SufW ws (termS f st).2
  | f, st, h => by
    by_cases h1 : (j3 st).1 = [40]
    · by_cases h2 : u1 (u6 st) = 0
      · rw [xB h1 (.inl h2)]; exact h.none
      · cases f with
        | zero => rw [xB h1 (.inr rfl)]; exact h.none
        | succ f =>
          rw [oI h1 h2]
          exact qbp (zT (fun st' h' => SufW.term f st' h') _ _ _ (vK h))
    · rw [xF h1]
      dsimp only
      split
      · exact h.nx
      · exact h.none
/-! ### how much is left -/
theorem xG (st : Wds) : r5 (j3 st).2 ≤ r5 st - 1 := by
  match st with
  | some (x :: l) => exact Nat.le_refl _
  | some [] => exact Nat.zero_le _
  | none => exact Nat.zero_le _
theorem oT (st : Wds) : r5 (v7 st).2 ≤ r5 st := by
  show r5 (if (a6 (j3 st).1).2 = true then (j3 st).2 else none) ≤ _
  have := xG st
  split
  · omega
  · exact Nat.zero_le _
theorem nT {rec : Wds → V.Term × Wds} (hr : ∀ st, r5 (rec st).2 ≤ r5 st) : ∀ (g : Nat) (st : Wds) (acc : List V.Term), r5 (z7 rec g st acc).2 ≤ r5 st
  | 0, st, acc => Nat.le_refl _
  | g + 1, none, acc => Nat.le_refl _
  | g + 1, some [], acc => Nat.le_refl _
  | g + 1, some (x :: l), acc => by
    rw [z7]
    split
    · exact Nat.le_refl _
    · exact Nat.le_trans (nT hr g _ _) (hr _)
theorem len_st2 (st : Wds) : r5 (m8 st) ≤ r5 st - 1 := by
  have := xG st; have := xG (j3 st).2; unfold m8; omega
theorem len_w4 (st : Wds) : r5 (wq4 st).2 ≤ r5 st - 1 := by
  have h2 := len_st2 st
  have h3 : r5 (b8 st).2 ≤ r5 (m8 st) := by
    unfold b8
    split
    · exact oT _
    · exact Nat.le_refl _
  have h4 : r5 (wq4 st).2 ≤ r5 (b8 st).2 := by
    unfold wq4
    split
    · exact oT _
    · exact Nat.le_refl _
  omega
theorem mT : ∀ (f : Nat) (st : Wds), r5 (termS f st).2 ≤ r5 st - 1
  | f, st => by
    by_cases h1 : (j3 st).1 = [40]
    · by_cases h2 : u1 (u6 st) = 0
      · rw [xB h1 (.inl h2)]; exact Nat.zero_le _
      · cases f with
        | zero => rw [xB h1 (.inr rfl)]; exact Nat.zero_le _
        | succ f =>
          rw [oI h1 h2]
          have hk := nT (rec := termS f) (fun st => by have := mT f st; omega) (r5 (wq4 st).2) (wq4 st).2 []
          have h4 := len_w4 st
          unfold j9
          split
          · exact Nat.zero_le _
          · have := xG (z7 (termS f) (r5 (wq4 st).2) (wq4 st).2 []).2
            dsimp only; omega
    · rw [xF h1]
      dsimp only
      split
      · exact xG st
      · exact Nat.zero_le _
/-! ### the word of an operation -/
theorem yR (tk : Bs) : ∀ k : Nat, k ≤ 21 → bD tk k = 0 ∨ (1 ≤ bD tk k ∧ bD tk k ≤ 21 ∧ n8 (bD tk k) = tk)
  | 0, _ => .inl rfl
  | k + 1, h => by
    rw [bD]
    split
    · next e => exact .inr ⟨by omega, by omega, e⟩
    · exact yR tk k omG
theorem cE (tk : Bs) : u1 tk = 0 ∨ (1 ≤ u1 tk ∧ u1 tk ≤ 21 ∧ n8 (u1 tk) = tk) := yR tk 21 (Nat.le_refl _)
structure OpI (wd : Bs) (j : Nat) (c : Int) : Prop where
  lo : 1 ≤ j
  hi : j ≤ 22
  eq : c = if 1 ≤ u1 wd ∧ u1 wd < j then u1 wd else 0
theorem OpI.zero (wd : Bs) : OpI wd 1 0 := ⟨Nat.le_refl _, by omega, by rw [if_neg omG]⟩
theorem mM {a b : Bs} (h : ((m0 a).toList == (m0 b).toList) = true) : a = b := mkB_inj (str_eq h)
theorem lM {a b : Bs} (h : ((m0 a).toList == (m0 b).toList) = false) : a ≠ b := fun e => str_ne h (by rw [e])
theorem OpI.hit {wd : Bs} {j : Nat} {c : Int} (h : OpI wd j c) (hj : (j : Int) ≤ 21) (e : ((a7 (j : Int)).toList == (m0 wd).toList) = true) : OpI wd (j + 1) (j : Int) := by
  have e2 : n8 (j : Int) = wd := mM e
  have h2 : u1 wd = j := by rw [← e2]; exact (jG (by have := h.lo; omega) hj).1
  exact ⟨by omega, by omega, by rw [h2, if_pos (by have := h.lo; omega)]⟩
theorem OpI.miss {wd : Bs} {j : Nat} {c : Int} (h : OpI wd j c) (hj : (j : Int) ≤ 21) (e : ((a7 (j : Int)).toList == (m0 wd).toList) = false) : OpI wd (j + 1) c := by
  have hn : u1 wd ≠ j := fun q => by
    rcases cE wd with h0 | ⟨_, _, h3⟩
    · have := h.lo; omega
    · rw [q] at h3; exact lM e h3
  have hl := h.lo
  refine ⟨by omega, by omega, ?_⟩
  rw [h.eq]
  by_cases hc : 1 ≤ u1 wd ∧ u1 wd < j
  · rw [if_pos hc, if_pos omG]
  · rw [if_neg hc, if_neg omG]
theorem OpI.fin {wd : Bs} {j : Nat} {c : Int} (h : OpI wd j c) (hj : ¬ (j : Int) ≤ 21) : c = u1 wd := by
  have hh := h.hi
  rw [h.eq]
  rcases cE wd with h0 | ⟨h1, h2, _⟩
  · rw [if_neg omG, h0]
  · rw [if_pos omG]
end Vg
