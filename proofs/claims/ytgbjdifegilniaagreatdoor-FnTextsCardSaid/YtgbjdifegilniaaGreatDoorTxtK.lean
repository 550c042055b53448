/- The program's reader of terms: what it leaves, and its contract. Condition: texts are not too long. -/
import Derived.Test.YtgbjdifegilniaaGreatDoorTxtI
namespace Vg
open Go Go.Proofs
/-! ### what the reader leaves -/
def n6 (l : Bs) : Int := s4 (u0 l).1
noncomputable def t7 (l : Bs) : (Int × Bool) × Bs := if n6 l = 19 then y6 (u0 l).2 else ((0, true), (u0 l).2)
noncomputable def nd4 (l : Bs) : (Int × Bool) × Bs := if 19 ≤ n6 l ∧ n6 l ≤ 21 then y6 (t7 l).2 else ((0, true), (t7 l).2)
section
variable {rec : Nat → Bs → RdT} {c : Nat} {l : Bs}
theorem nr_0 (h : n6 l = 0) : eA rec c l = ((w5, false), c, (u0 l).2) := if_pos h
theorem nr_3 (h : n6 l ≠ 0) (h3 : (t7 l).1.2 = false) : eA rec c l = ((w5, false), c, (t7 l).2) := by
  unfold eA
  rw [show s4 (u0 l).1 = n6 l from rfl, if_neg h]
  show (match t7 l with | ((_, false), l3) => _ | ((n, true), l3) => _) = _
  split
  · next e => rw [e]
  · next e => rw [e] at h3; cases h3
theorem nr_4 (h : n6 l ≠ 0) (h3 : (t7 l).1.2 = true) (h4 : (nd4 l).1.2 = false) : eA rec c l = ((w5, false), c, (nd4 l).2) := by
  unfold eA
  rw [show s4 (u0 l).1 = n6 l from rfl, if_neg h]
  show (match t7 l with | ((_, false), l3) => _ | ((n, true), l3) => _) = _
  split
  · next e => rw [e] at h3; cases h3
  · next n l3 e =>
    have e4 : nd4 l = if 19 ≤ n6 l ∧ n6 l ≤ 21 then y6 l3 else ((0, true), l3) := by unfold nd4; rw [e]
    rw [← e4]
    split
    · next e' => rw [e']
    · next e' => rw [e'] at h4; cases h4
theorem nr_k (h : n6 l ≠ 0) (h3 : (t7 l).1.2 = true) (h4 : (nd4 l).1.2 = true) : eA rec c l = match d8 rec (nd4 l).2.length c (nd4 l).2 [] with
      | (none, c', l5) => ((w5, false), c', l5)
      | (some ks, c', l5) => match takeR 41 l5 with
        | (false, l6) => ((w5, false), c', l6)
        | (true, l6) => if (ks.length : Int) = e8 (n6 l) then ((⟨n6 l, pW (n6 l) (nd4 l).1.1 ks, (t7 l).1.1, ByteArray.empty, ks⟩, true), c', l6) else ((w5, false), c', l6) := by
  unfold eA
  rw [show s4 (u0 l).1 = n6 l from rfl, if_neg h]
  show (match t7 l with | ((_, false), l3) => _ | ((n, true), l3) => _) = _
  split
  · next e => rw [e] at h3; cases h3
  · next n l3 e =>
    have e4 : nd4 l = if 19 ≤ n6 l ∧ n6 l ≤ 21 then y6 l3 else ((0, true), l3) := by unfold nd4; rw [e]
    rw [← e4]
    split
    · next e' => rw [e'] at h4; cases h4
    · next w l4 e' => rw [e', e]; rfl
end
/-! ### suffixes, lengths, counts -/
structure Gd (s : ByteArray) (rec : Nat → Bs → RdT) : Prop where
  suf : ∀ c l, SufR s l → SufR s (rec c l).2.2
  len : ∀ c l, (rec c l).2.2.length ≤ l.length
  cnt : ∀ c l, (rec c l).1.2 = true → (rec c l).2.1 ≤ 240
theorem mK (c : UInt8) (l : Bs) : (takeR c l).2.length ≤ l.length := by
  cases l with
  | nil => exact Nat.le_refl _
  | cons x r => rw [takeR]; split <;> simp
theorem cI : ∀ l : Bs, (u0 l).2.length ≤ l.length
  | [] => Nat.le_refl _
  | c :: l => by
    rw [u0]
    split
    · exact Nat.le_refl _
    · have := cI l; simp only [List.length_cons]; omega
theorem tV (l : Bs) : (y6 l).2.length ≤ l.length := by
  have h1 := mK 32 l
  unfold y6
  split
  · next e => rw [e] at h1; have := cI (takeR 32 l).2; rw [e] at this; dsimp only at *; omega
  · next e => rw [e] at h1; exact h1
theorem wO {s : ByteArray} {l : Bs} (h : SufR s l) : SufR s (t7 l).2 := by
  unfold t7
  split
  · exact h.tok.num
  · exact h.tok
theorem jG {s : ByteArray} {l : Bs} (h : SufR s l) : SufR s (nd4 l).2 := by
  unfold nd4
  split
  · exact (wO h).num
  · exact wO h
theorem nd4_len (l : Bs) : (t7 l).2.length ≤ l.length ∧ (nd4 l).2.length ≤ l.length := by
  have h1 := cI l
  have h3 : (t7 l).2.length ≤ l.length := by
    unfold t7
    split
    · have := tV (u0 l).2; omega
    · exact h1
  refine ⟨h3, ?_⟩
  unfold nd4
  split
  · have := tV (t7 l).2; omega
  · exact h3
theorem bX {s : ByteArray} {rec : Nat → Bs → RdT} (hg : Gd s rec) : ∀ (g c : Nat) (l : Bs) (acc : List V.Term), (SufR s l → SufR s (d8 rec g c l acc).2.2) ∧ (d8 rec g c l acc).2.2.length ≤ l.length ∧ (c ≤ 240 → (d8 rec g c l acc).1 ≠ none → (d8 rec g c l acc).2.1 ≤ 240)
  | 0, c, l, acc => ⟨id, Nat.le_refl _, fun h _ => h⟩
  | g + 1, c, l, acc => by
    rw [d8]
    have t1 := mK 32 l
    have t2 : SufR s l → SufR s (takeR 32 l).2 := fun h => h.take
    split
    · next e => rw [e] at t1 t2; exact ⟨t2, t1, fun h _ => h⟩
    · next l' e =>
      rw [e] at t1 t2
      dsimp only at t1 t2
      have r1 := hg.suf c l'
      have r2 := hg.len c l'
      have r3 := hg.cnt c l'
      split
      · next t c' r e' =>
        rw [e'] at r1 r2 r3
        have ih := bX hg g c' r (acc ++ [t])
        exact ⟨fun h => ih.1 (r1 (t2 h)), by have := ih.2.1; dsimp only at *; omega, fun _ hn => ih.2.2 (r3 rfl) hn⟩
      · next c' r e' =>
        rw [e'] at r1 r2
        exact ⟨fun h => r1 (t2 h), by dsimp only at *; omega, fun _ hn => absurd rfl hn⟩
theorem node_gd {s : ByteArray} {rec : Nat → Bs → RdT} (hg : Gd s rec) (c : Nat) (l : Bs) : (SufR s l → SufR s (eA rec c l).2.2) ∧ (eA rec c l).2.2.length ≤ l.length ∧ (c ≤ 240 → (eA rec c l).1.2 = true → (eA rec c l).2.1 ≤ 240) := by
  have hl := nd4_len l
  by_cases h0 : n6 l = 0
  · rw [nr_0 h0]; exact ⟨fun h => h.tok, cI l, fun h _ => h⟩
  · cases h3 : (t7 l).1.2 with
    | false => rw [nr_3 h0 h3]; exact ⟨wO, hl.1, fun h _ => h⟩
    | true =>
      cases h4 : (nd4 l).1.2 with
      | false => rw [nr_4 h0 h3 h4]; exact ⟨jG, hl.2, fun h _ => h⟩
      | true =>
        rw [nr_k h0 h3 h4]
        have hk := bX hg (nd4 l).2.length c (nd4 l).2 []
        split
        · next e => rw [e] at hk; exact ⟨fun h => hk.1 (jG h), Nat.le_trans hk.2.1 hl.2, fun _ h => by cases h⟩
        · next ks c' l5 e =>
          rw [e] at hk
          have t1 := mK 41 l5
          have t2 : SufR s l5 → SufR s (takeR 41 l5).2 := fun h => h.take
          have hb := hk.2.1
          split
          · next e' => rw [e'] at t1 t2; exact ⟨fun h => t2 (hk.1 (jG h)), by dsimp only at *; omega, fun _ h => by cases h⟩
          · next e' =>
            rw [e'] at t1 t2
            split
            · exact ⟨fun h => t2 (hk.1 (jG h)), by dsimp only at *; omega, fun h _ => hk.2.2 h (by simp)⟩
            · exact ⟨fun h => t2 (hk.1 (jG h)), by dsimp only at *; omega, fun _ h => by cases h⟩
theorem jN (s : ByteArray) : ∀ f : Nat, Gd s (m0 f)
  | 0 => ⟨fun _ _ h => h, fun _ _ => Nat.le_refl _, fun _ _ h => by cases h⟩
  | f + 1 => by
    have hg := jN s f
    have key : ∀ (c : Nat) (l : Bs), (SufR s l → SufR s (m0 (f + 1) c l).2.2) ∧ (m0 (f + 1) c l).2.2.length ≤ l.length ∧ ((m0 (f + 1) c l).1.2 = true → (m0 (f + 1) c l).2.1 ≤ 240) := by
      intro c l
      rw [m0]
      split
      · exact ⟨id, Nat.le_refl _, fun h => by cases h⟩
      · next hc =>
        have t1 := mK 40 l
        have t2 : SufR s l → SufR s (takeR 40 l).2 := fun h => h.take
        split
        · next l1 e =>
          rw [e] at t1 t2
          have := cI l1
          exact ⟨fun h => (t2 h).tok, by dsimp only at *; omega, fun _ => by dsimp only; omega⟩
        · next l1 e =>
          rw [e] at t1 t2
          have hn := node_gd hg (c + 1) l1
          exact ⟨fun h => hn.1 (t2 h), by have := hn.2.1; dsimp only at *; omega, fun h => hn.2.2 omG h⟩
    exact ⟨fun c l => (key c l).1, fun c l => (key c l).2.1, fun c l => (key c l).2.2⟩
end Vg
