/- The term of a fact on numbers says what the fact says: plain law. No condition. -/
import Derived.Test.YtndmanmhalpjgaaGreatDoorFTQ
import Derived.Test.YtndmanmhalpjgaaGreatDoorFHolds
namespace Vg
open Go Go.Proofs
theorem mk_c1 {op w n v x : Int} (h : okT (oT op w n [cT v x]) = true) (ho : op ≠ 22) : p4 op w n [cT v x] = (cT w (q6 (oT op w n [cT v x]) [x]), true) := by
  have ht : m7 (oT op w n [cT v x]) = true := by
    unfold m7
    have e : gA (oT op w n [cT v x]) = [] := by
      rw [gA, if_neg ho, w8, w8, gA, if_neg (by decide), w8]; rfl
    rw [h, e, oC, sz_c]; rfl
  rw [fK ht, cN (by simp) (by simp [o4])]; rfl
theorem bN {op w n v x u y : Int} (h : okT (oT op w n [cT v x, cT u y]) = true) (ho : op ≠ 22) : p4 op w n [cT v x, cT u y] = (cT w (q6 (oT op w n [cT v x, cT u y]) [x, y]), true) := by
  have ht : m7 (oT op w n [cT v x, cT u y]) = true := by
    unfold m7
    have e : gA (oT op w n [cT v x, cT u y]) = [] := by
      rw [gA, if_neg ho, w8, w8, w8, gA, if_neg (by decide), w8, gA, if_neg (by decide), w8]; rfl
    rw [h, e, sz_2, sz_c, sz_c]; rfl
  rw [fK ht, cN (by simp) (by simp [o4])]; rfl
section
variable {w x y : Int}
theorem bL (hx : wordP w x = true) (hy : wordP w y = true) : p4 14 1 0 [cT w x, cT w y] = (cT 1 (e8 (x == y)), true) := by
  rw [bN (jH (p8 hx) (p8 hy) (by decide) (by decide) (by show (decide (w = w) && decide ((1 : Int) = 1)) = true; simp)) (by decide), ap_b (show (3 : Int) ≤ 14 ∧ (14 : Int) ≤ 16 by decide)]
  congr 2
  show d6 14 w x y = _
  unfold d6
  rw [if_pos (by rw [hx, hy]; rfl)]; rfl
theorem c_lt2 (hx : wordP w x = true) (hy : wordP w y = true) : p4 15 1 0 [cT w x, cT w y] = (cT 1 (e8 (decide (x < y))), true) := by
  rw [bN (jH (p8 hx) (p8 hy) (by decide) (by decide) (by show (decide (w = w) && decide ((1 : Int) = 1)) = true; simp)) (by decide), ap_b (show (3 : Int) ≤ 15 ∧ (15 : Int) ≤ 16 by decide)]
  congr 2
  show d6 15 w x y = _
  unfold d6
  rw [if_pos (by rw [hx, hy]; rfl)]; rfl
theorem c_not1 (b : Bool) : p4 1 1 0 [cT 1 (e8 b)] = (cT 1 (e8 (!b)), true) := by
  rw [mk_c1 (dC (p8 (eD (by decide) _)) (by decide) (.inl rfl) (fun _ => rfl) (by show decide ((1 : Int) = 1) = true; rfl)) (by decide)]
  cases b <;> rfl
theorem c_nl (hx : wordP w x = true) (hy : wordP w y = true) : p9 (cT w x) (cT w y) = (cT 1 (e8 (decide (y ≤ x))), true) := by
  unfold p9
  rw [c_lt2 hx hy, if_pos rfl, c_not1]
  congr 3
  by_cases c : x < y
  · rw [decide_eq_true c, decide_eq_false omG]; rfl
  · rw [decide_eq_false c, decide_eq_true omG]; rfl
theorem c_bit {b : Int} (hx : wordP w x = true) (h0 : 0 ≤ b) (h1 : b < w) : p4 19 1 b [cT w x] = (cT 1 (x9 w x b 1), true) ∧ wordP 1 (x9 w x b 1) = true := by
  refine ⟨?_, cut_w hx h0 (by decide) omG⟩
  rw [mk_c1 (dC (p8 hx) (by decide) (by decide) (fun e => absurd rfl e) (by show (decide (0 ≤ b) && decide (b ≤ w - 1)) = true; simp; omega)) (by decide)]
  rfl
theorem c_add (hx : wordP w x = true) (hy : wordP w y = true) : p4 3 w 0 [cT w x, cT w y] = (cT w (d6 3 w x y), true) := by
  have hw := oA.1 (w6 hx).1
  rw [bN (jH (p8 hx) (p8 hy) hw (by decide) (by show (decide (w = w) && decide (w = w)) = true; simp)) (by decide), ap_b (show (3 : Int) ≤ 3 ∧ (3 : Int) ≤ 16 by decide)]
  rfl
end
theorem iK {w : Int} {l : List Int} {k : Nat} (h : k < l.length) : (l.map (cT w)).getD k K.terms.dflt = cT w (l.getD k K.ints.dflt) := by
  rw [List.getD_eq_getElem?_getD, List.getD_eq_getElem?_getD, List.getElem?_map, List.getElem?_eq_getElem h]; rfl
theorem gK {P : Int → Prop} {l : List Int} {k : Nat} (h : ∀ x, x ∈ l → P x) (hk : k < l.length) : P (l.getD k K.ints.dflt) := by
  rw [List.getD_eq_getElem?_getD, List.getElem?_eq_getElem hk]
  exact h _ (List.getElem_mem hk)
theorem qam {w k a b n : Int} {l : List Int} (hf : factP w ⟨k, a, b, n⟩ = true) (hl : l.length = 4) (hx : ∀ x, x ∈ l → wordP w x = true) :
    g6 w k a b n (l.map (cT w)) = (cT 1 (e8 (nC w ⟨k, a, b, n⟩ l)), true) := by
  have ha := bU hf
  have A := gK (k := a.toNat) hx omG
  have ea : (l.map (cT w)).getD a.toNat K.terms.dflt = cT w (l.getD a.toNat K.ints.dflt) := iK omG
  have hk : k = 1 ∨ k = 2 ∨ k = 3 ∨ k = 4 ∨ k = 5 ∨ k = 6 := by
    unfold factP at hf
    simp only at hf
    repeat' split at hf
    all_goals first | omega | cases hf
  unfold g6 nC
  rw [ea]
  rcases hk with rfl | rfl | rfl | rfl | rfl | rfl
  · have hn : wordP w n = true := by
      unfold factP at hf; split at hf
      · cases hf
      · simp at hf; exact hf.2
    rw [if_pos rfl, bL hn A]
    congr 3
    show _ = (l.getD a.toNat K.ints.dflt == n)
    rw [Bool.eq_iff_iff, beq_iff_eq, beq_iff_eq]; exact ⟨Eq.symm, Eq.symm⟩
  · have hb := wK hf (by decide) (by decide) (by decide)
    rw [if_neg (by decide), if_pos rfl, iK omG, bL A (gK (k := b.toNat) hx omG)]; rfl
  · have hn : wordP w n = true := by
      unfold factP at hf; split at hf
      · cases hf
      · simp at hf; exact hf.1.2
    rw [if_neg (by decide), if_neg (by decide), if_pos rfl, c_nl hn A]; rfl
  · have hb := cU hf
    have hn : wordP 1 n = true := by
      unfold factP at hf; split at hf
      · cases hf
      · simp at hf
        have := oA.1 hf.2
        exact fA (by decide) this.1 (by show n < 2; omega)
    obtain ⟨e, g⟩ := c_bit (b := b) A hb.1 hb.2
    rw [if_neg (by decide), if_neg (by decide), if_neg (by decide), if_pos rfl, e, if_pos rfl, bL hn g]
    congr 3
    have e2 : x9 w (l.getD a.toNat K.ints.dflt) b 1 = IntKind.i64.wrap (BitVec.ofInt IntKind.i64.bits (Int.fdiv (l.getD a.toNat K.ints.dflt) (2 ^ min b.toNat IntKind.i64.bits)) &&& BitVec.ofInt IntKind.i64.bits 1).toNat := by
      unfold x9
      rw [if_pos ⟨A, hb.1, by decide, by omega⟩]
      unfold a7
      rw [if_pos (by decide)]; rfl
    show (n == x9 w (l.getD a.toNat K.ints.dflt) b 1) = _
    rw [e2]
    rw [Bool.eq_iff_iff, beq_iff_eq]
    show _ ↔ (_ == n) = true
    rw [beq_iff_eq]; exact ⟨Eq.symm, Eq.symm⟩
  · have hb := wK hf (by decide) (by decide) (by decide)
    have hn : wordP w n = true := by
      unfold factP at hf; split at hf
      · cases hf
      · simp at hf; exact hf.2
    have B := gK (k := b.toNat) hx omG
    have C := jL (op := 3) (by decide) A B
    rw [if_neg (by decide), if_neg (by decide), if_neg (by decide), if_neg (by decide), if_pos rfl, iK omG, c_add A B, if_pos rfl, bL hn C]
    congr 3
    have e2 : d6 3 w (l.getD a.toNat K.ints.dflt) (l.getD b.toNat K.ints.dflt) = a7 w (IntKind.i64.wrap (l.getD a.toNat K.ints.dflt + l.getD b.toNat K.ints.dflt)) := by
      unfold d6
      rw [if_pos (by rw [A, B]; rfl), if_pos rfl]
    rw [e2, Bool.eq_iff_iff, beq_iff_eq]
    show _ ↔ (_ == n) = true
    rw [beq_iff_eq]; exact ⟨Eq.symm, Eq.symm⟩
  · have hb := wK hf (by decide) (by decide) (by decide)
    rw [if_neg (by decide), if_neg (by decide), if_neg (by decide), if_neg (by decide), if_neg (by decide), iK omG, c_nl (gK (k := b.toNat) hx omG) A]; rfl
end Vg
