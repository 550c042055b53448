/- The program's reader of terms: what it leaves, and its contract. Condition: texts are not too long. -/
import Derived.Test.YtcdepophgnlphaaDoorTxtI
namespace Vg
open Go Go.Proofs
/-! ### what the reader leaves -/
def o5 (l : Bs) : Int := u1 (s0 l).1
noncomputable def w6 (l : Bs) : (Int × Bool) × Bs := if o5 l = 19 then w5 (s0 l).2 else ((0, true), (s0 l).2)
noncomputable def nd4 (l : Bs) : (Int × Bool) × Bs := if 19 ≤ o5 l ∧ o5 l ≤ 21 then w5 (w6 l).2 else ((0, true), (w6 l).2)
section
variable {rec : Nat → Bs → RdT} {c : Nat} {l : Bs}
theorem nr_0 (h : o5 l = 0) : v8 rec c l = ((r4, false), c, (s0 l).2) := if_pos h
theorem nr_3 (h : o5 l ≠ 0) (h3 : (w6 l).1.2 = false) : v8 rec c l = ((r4, false), c, (w6 l).2) := by
  unfold v8
  rw [show u1 (s0 l).1 = o5 l from rfl, if_neg h]
  show (match w6 l with | ((_, false), l3) => _ | ((n, true), l3) => _) = _
  split
  · next e => rw [e]
  · next e => rw [e] at h3; cases h3
theorem nr_4 (h : o5 l ≠ 0) (h3 : (w6 l).1.2 = true) (h4 : (nd4 l).1.2 = false) : v8 rec c l = ((r4, false), c, (nd4 l).2) := by
  unfold v8
  rw [show u1 (s0 l).1 = o5 l from rfl, if_neg h]
  show (match w6 l with | ((_, false), l3) => _ | ((n, true), l3) => _) = _
  split
  · next e => rw [e] at h3; cases h3
  · next n l3 e =>
    have e4 : nd4 l = if 19 ≤ o5 l ∧ o5 l ≤ 21 then w5 l3 else ((0, true), l3) := by unfold nd4; rw [e]
    rw [← e4]
    split
    · next e' => rw [e']
    · next e' => rw [e'] at h4; cases h4
theorem nr_k (h : o5 l ≠ 0) (h3 : (w6 l).1.2 = true) (h4 : (nd4 l).1.2 = true) : v8 rec c l = match j7 rec (nd4 l).2.length c (nd4 l).2 [] with
      | (none, c', l5) => ((r4, false), c', l5)
      | (some ks, c', l5) => match takeR 41 l5 with
        | (false, l6) => ((r4, false), c', l6)
        | (true, l6) => if (ks.length : Int) = j6 (o5 l) then ((⟨o5 l, pW (o5 l) (nd4 l).1.1 ks, (w6 l).1.1, ByteArray.empty, ks⟩, true), c', l6) else ((r4, false), c', l6) := by
  unfold v8
  rw [show u1 (s0 l).1 = o5 l from rfl, if_neg h]
  show (match w6 l with | ((_, false), l3) => _ | ((n, true), l3) => _) = _
  split
  · next e => rw [e] at h3; cases h3
  · next n l3 e =>
    have e4 : nd4 l = if 19 ≤ o5 l ∧ o5 l ≤ 21 then w5 l3 else ((0, true), l3) := by unfold nd4; rw [e]
    rw [← e4]
    split
    · next e' => rw [e'] at h4; cases h4
    · next w l4 e' => rw [e', e]; rfl
end
/-! ### suffixes, lengths, counts -/
structure Gd (s : ByteArray) (rec : Nat → Bs → RdT) : Prop where
  suf : ∀ c l, SufR s l → SufR s (rec c l).2.2
  len : ∀ c l, (rec c l).2.2.length ≤ l.length
  cnt : ∀ c l, (rec c l).1.2 = true → (rec c l).2.1 ≤ 240
theorem kI (c : UInt8) (l : Bs) : (takeR c l).2.length ≤ l.length := by
  cases l with
  | nil => exact Nat.le_refl _
  | cons x r => rw [takeR]; split <;> simp
theorem sF : ∀ l : Bs, (s0 l).2.length ≤ l.length
  | [] => Nat.le_refl _
  | c :: l => by
    rw [s0]
    split
    · exact Nat.le_refl _
    · have := sF l; simp only [List.length_cons]; omega
theorem bS (l : Bs) : (w5 l).2.length ≤ l.length := by
  have h1 := kI 32 l
  unfold w5
  split
  · next e => rw [e] at h1; have := sF (takeR 32 l).2; rw [e] at this; dsimp only at *; omega
  · next e => rw [e] at h1; exact h1
theorem iM {s : ByteArray} {l : Bs} (h : SufR s l) : SufR s (w6 l).2 := by
  unfold w6
  split
  · exact h.tok.num
  · exact h.tok
theorem gE {s : ByteArray} {l : Bs} (h : SufR s l) : SufR s (nd4 l).2 := by
  unfold nd4
  split
  · exact (iM h).num
  · exact iM h
theorem nd4_len (l : Bs) : (w6 l).2.length ≤ l.length ∧ (nd4 l).2.length ≤ l.length := by
  have h1 := sF l
  have h3 : (w6 l).2.length ≤ l.length := by
    unfold w6
    split
    · have := bS (s0 l).2; omega
    · exact h1
  refine ⟨h3, ?_⟩
  unfold nd4
  split
  · have := bS (w6 l).2; omega
  · exact h3
theorem wT {s : ByteArray} {rec : Nat → Bs → RdT} (hg : Gd s rec) : ∀ (g c : Nat) (l : Bs) (acc : List V.Term), (SufR s l → SufR s (j7 rec g c l acc).2.2) ∧ (j7 rec g c l acc).2.2.length ≤ l.length ∧ (c ≤ 240 → (j7 rec g c l acc).1 ≠ none → (j7 rec g c l acc).2.1 ≤ 240)
  | 0, c, l, acc => ⟨id, Nat.le_refl _, fun h _ => h⟩
  | g + 1, c, l, acc => by
    rw [j7]
    have t1 := kI 32 l
    have t2 : SufR s l → SufR s (takeR 32 l).2 := fun h => h.take
    split
    · next e => rw [e] at t1 t2; exact ⟨t2, t1, fun h _ => h⟩
    · next l' e =>
      rw [e] at t1 t2
      dsimp only at t1 t2
      have r1 := hg.suf c l'
      have r2 := hg.len c l'
      have r3 := hg.cnt c l'
      split
      · next t c' r e' =>
        rw [e'] at r1 r2 r3
        have ih := wT hg g c' r (acc ++ [t])
        exact ⟨fun h => ih.1 (r1 (t2 h)), by have := ih.2.1; dsimp only at *; omega, fun _ hn => ih.2.2 (r3 rfl) hn⟩
      · next c' r e' =>
        rw [e'] at r1 r2
        exact ⟨fun h => r1 (t2 h), by dsimp only at *; omega, fun _ hn => absurd rfl hn⟩
theorem node_gd {s : ByteArray} {rec : Nat → Bs → RdT} (hg : Gd s rec) (c : Nat) (l : Bs) : (SufR s l → SufR s (v8 rec c l).2.2) ∧ (v8 rec c l).2.2.length ≤ l.length ∧ (c ≤ 240 → (v8 rec c l).1.2 = true → (v8 rec c l).2.1 ≤ 240) := by
  have hl := nd4_len l
  by_cases h0 : o5 l = 0
  · rw [nr_0 h0]; exact ⟨fun h => h.tok, sF l, fun h _ => h⟩
  · cases h3 : (w6 l).1.2 with
    | false => rw [nr_3 h0 h3]; exact ⟨iM, hl.1, fun h _ => h⟩
    | true =>
      cases h4 : (nd4 l).1.2 with
      | false => rw [nr_4 h0 h3 h4]; exact ⟨gE, hl.2, fun h _ => h⟩
      | true =>
        rw [nr_k h0 h3 h4]
        have hk := wT hg (nd4 l).2.length c (nd4 l).2 []
        split
        · next e => rw [e] at hk; exact ⟨fun h => hk.1 (gE h), Nat.le_trans hk.2.1 hl.2, fun _ h => by cases h⟩
        · next ks c' l5 e =>
          rw [e] at hk
          have t1 := kI 41 l5
          have t2 : SufR s l5 → SufR s (takeR 41 l5).2 := fun h => h.take
          have hb := hk.2.1
          split
          · next e' => rw [e'] at t1 t2; exact ⟨fun h => t2 (hk.1 (gE h)), by dsimp only at *; omega, fun _ h => by cases h⟩
          · next e' =>
            rw [e'] at t1 t2
            split
            · exact ⟨fun h => t2 (hk.1 (gE h)), by dsimp only at *; omega, fun h _ => hk.2.2 h (by simp)⟩
            · exact ⟨fun h => t2 (hk.1 (gE h)), by dsimp only at *; omega, fun _ h => by cases h⟩
theorem dL (s : ByteArray) : ∀ f : Nat, Gd s (o0 f)
  | 0 => ⟨fun _ _ h => h, fun _ _ => Nat.le_refl _, fun _ _ h => by cases h⟩
  | f + 1 => by
    have hg := dL s f
    have key : ∀ (c : Nat) (l : Bs), (SufR s l → SufR s (o0 (f + 1) c l).2.2) ∧ (o0 (f + 1) c l).2.2.length ≤ l.length ∧ ((o0 (f + 1) c l).1.2 = true → (o0 (f + 1) c l).2.1 ≤ 240) := by
      intro c l
      rw [o0]
      split
      · exact ⟨id, Nat.le_refl _, fun h => by cases h⟩
      · next hc =>
        have t1 := kI 40 l
        have t2 : SufR s l → SufR s (takeR 40 l).2 := fun h => h.take
        split
        · next l1 e =>
          rw [e] at t1 t2
          have := sF l1
          exact ⟨fun h => (t2 h).tok, by dsimp only at *; omega, fun _ => by dsimp only; omega⟩
        · next l1 e =>
          rw [e] at t1 t2
          have hn := node_gd hg (c + 1) l1
          exact ⟨fun h => hn.1 (t2 h), by have := hn.2.1; dsimp only at *; omega, fun h => hn.2.2 omG h⟩
    exact ⟨fun c l => (key c l).1, fun c l => (key c l).2.1, fun c l => (key c l).2.2⟩
end Vg
