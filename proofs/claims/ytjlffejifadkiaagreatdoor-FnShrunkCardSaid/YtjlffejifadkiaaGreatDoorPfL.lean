/- The path of a test, step by step: plain law behind pathFor and PathFor. No condition. -/
import Derived.Test.YtjlffejifadkiaaGreatDoorEvI
import Derived.Test.YtjlffejifadkiaaGreatDoorPathW
namespace Vg
open Go Go.Proofs
noncomputable def o4 (p : V.Prog) (s0 : V.Path) (f : Nat) (x : List Int) : V.Path := yK p (u4 x) f s0
theorem pX {t u : V.Term} {n : Nat} (h : u ∈ List.replicate n t) : u = t := (List.mem_replicate.1 h).2
theorem qjp {p : V.Prog} (hp : y4 p = true) : PX p (startP p) := by
  have q := (qt_tq hp).c 0 (zero_word (progP_w hp))
  exact ⟨qjq hp, ⟨fun t ht => (pX ht) ▸ q, fun t ht => (pX ht) ▸ q, (fun t ht => nomatch ht), (fun t ht => nomatch ht)⟩, ⟨by show (0 : Int) ≤ 0 ∧ (0 : Int) ≤ 9; decide, fun x hx => nomatch hx⟩⟩
structure PfI (p : V.Prog) (x : List Int) (fuel : Int) (q : Nat × V.Path) : Prop where
  kf : (q.1 : Int) ≤ fuel
  hl : InOk p x
  hx : PX p q.2
  hc : gB (u4 x) q.2 = true
  eq : o4 p (startP p) fuel.toNat x = yK p (u4 x) (fuel.toNat - q.1) q.2
section
variable {p : V.Prog} {x : List Int} {fuel : Int} {k : Nat} {s : V.Path}
theorem pf_0 (hi : n6 p x = true) (hf : 0 ≤ fuel) : PfI p x fuel (0, startP p) := by
  obtain ⟨hp, hl⟩ := tB hi
  exact ⟨hf, hl, qjp hp, rfl, rfl⟩
theorem rQ (h : PfI p x fuel (k, s)) (hk : ¬ (k : Int) < fuel) : o4 p (startP p) fuel.toNat x = s := by
  have h1 := h.kf
  have h2 := h.eq
  dsimp only at h1 h2
  rw [h2, show fuel.toNat - k = 0 by omega]; rfl
theorem pf_s (h : PfI p x fuel (k, s)) (hk : (k : Int) < fuel) : o4 p (startP p) fuel.toNat x = if (z2 p s).length = 0 then s else yK p (u4 x) (fuel.toNat - (k + 1)) (nA p (u4 x) s) := by
  have h2 := h.eq
  dsimp only at h2
  rw [h2, show fuel.toNat - k = (fuel.toNat - (k + 1)) + 1 by omega, yK]
theorem pf_b (h : PfI p x fuel (k, s)) (hk : (k : Int) < fuel) (h0 : (z2 p s).length = 0) : o4 p (startP p) fuel.toNat x = s := by
  rw [pf_s h hk, if_pos h0]
theorem pf_n (h : PfI p x fuel (k, s)) (hk : (k : Int) < fuel) (h0 : (z2 p s).length ≠ 0) : PfI p x fuel (k + 1, nA p (u4 x) s) := by
  refine ⟨by show ((k + 1 : Nat) : Int) ≤ fuel; omega, h.hl, aY h.hx h.hl h.hc h0, (bM h.hx h.hl h.hc h0).2.1, ?_⟩
  rw [pf_s h hk, if_neg h0]
theorem oY (h2 : (z2 p s).length = 2) : okT (wD p s) = true ∧ s.cond.length < ((z2 p s).getD 0 K.paths.dflt).cond.length := by
  obtain ⟨c, hk, _, _, e0, _⟩ := (aW p s).two h2
  have ec : wD p s = c := by
    unfold wD
    rw [e0, List.getD_eq_getElem?_getD, List.getElem?_append_right (Nat.le_refl _), Nat.sub_self]; rfl
  rw [ec, e0]
  exact ⟨hk, by simp⟩
theorem pick_0 {σ : ByteArray → Int} (h : ¬ ((z2 p s).length : Int) = 2) : nA p σ s = (z2 p s).getD 0 K.paths.dflt := by
  unfold nA nB
  rw [if_neg (fun q => h omG)]
theorem pick_0' {σ : ByteArray → Int} (h : evT σ (wD p s) = 1) : nA p σ s = (z2 p s).getD 0 K.paths.dflt := by
  unfold nA nB
  rw [if_neg (fun q => q.2 h)]
theorem pick_1 {σ : ByteArray → Int} (h2 : ((z2 p s).length : Int) = 2) (h : ¬ evT σ (wD p s) = 1) : nA p σ s = (z2 p s).getD 1 K.paths.dflt := by
  unfold nA nB
  rw [if_pos ⟨by omega, h⟩]
end
def sA (Q : Nat → Bool) : Nat → Nat → Nat
  | 0, i => i
  | m + 1, i => if Q i = true then i else sA Q m (i + 1)
structure LeI (Q : Nat → Bool) (m n : Nat) : Prop where
  le : n ≤ m
  eq : sA Q m 0 = sA Q (m - n) n
section
variable {Q : Nat → Bool} {m n : Nat}
theorem le_0 : LeI Q m 0 := ⟨Nat.zero_le _, rfl⟩
theorem le_hit (h : LeI Q m n) (hn : n < m) (q : Q n = true) : sA Q m 0 = n := by
  rw [h.eq, show m - n = (m - n - 1) + 1 by omega, sA, if_pos q]
theorem le_s (h : LeI Q m n) (hn : n < m) (q : Q n = false) : LeI Q m (n + 1) := by
  refine ⟨hn, ?_⟩
  rw [h.eq, show m - n = (m - (n + 1)) + 1 by omega, sA, if_neg (by rw [q]; exact Bool.false_ne_true)]
theorem le_e (h : LeI Q m n) (hn : ¬ n < m) : sA Q m 0 = m := by
  have := h.le
  obtain rfl : n = m := by omega
  rw [h.eq, Nat.sub_self]; rfl
theorem qZ : ∀ (m i : Nat), sA Q m i ≤ m + i
  | 0, i => by rw [sA]; omega
  | m + 1, i => by
    rw [sA]
    split
    · omega
    · have := qZ m (i + 1); omega
theorem pZ : ∀ (m i : Nat), Q (m + i) = true → Q (sA Q m i) = true
  | 0, i, h => by rw [sA]; rwa [Nat.zero_add] at h
  | m + 1, i, h => by
    rw [sA]
    split
    · assumption
    · refine pZ m (i + 1) ?_
      rw [show m + (i + 1) = m + 1 + i by omega]; exact h
end
def eC (a b : V.Path) : Bool := decide (b.code = a.code ∧ b.out.length = a.out.length ∧ b.turns = a.turns)
theorem lM {a b : V.Path} : eC a b = true ↔ b.code = a.code ∧ b.out.length = a.out.length ∧ b.turns = a.turns := by unfold eC; exact decide_eq_true_iff
theorem bI {a b : V.Path} (h : ¬ (b.code = a.code ∧ b.out.length = a.out.length ∧ b.turns = a.turns)) : eC a b = false := by unfold eC; exact decide_eq_false h
theorem qej (a : V.Path) : eC a a = true := lM.2 ⟨rfl, rfl, rfl⟩
section
variable (p : V.Prog) (s0 : V.Path) (l : List Int) (f : Nat)
noncomputable def o6 : Nat → List Int
  | 0 => l
  | k + 1 => (o6 k).set k (sA (fun n => eC (o4 p s0 f l) (o4 p s0 f ((o6 k).set k (n : Nat)))) (l.getD k 0).toNat 0 : Nat)
noncomputable def shrK (k : Nat) : Nat := sA (fun n => eC (o4 p s0 f l) (o4 p s0 f ((o6 p s0 l f k).set k (n : Nat)))) (l.getD k 0).toNat 0
end
theorem vJ {p : V.Prog} {s0 : V.Path} {l : List Int} {f k : Nat} : o6 p s0 l f (k + 1) = (o6 p s0 l f k).set k (shrK p s0 l f k : Nat) := by rw [o6]; rfl
structure ShrI (p : V.Prog) (s0 : V.Path) (l : List Int) (f k : Nat) : Prop where
  len : (o6 p s0 l f k).length = l.length
  hi : ∀ j, k ≤ j → (o6 p s0 l f k).getD j 0 = l.getD j 0
  lo : ∀ j, 0 ≤ (o6 p s0 l f k).getD j 0 ∧ (o6 p s0 l f k).getD j 0 ≤ l.getD j 0
  same : eC (o4 p s0 f l) (o4 p s0 f (o6 p s0 l f k)) = true
theorem sS {l : List Int} {k j : Nat} {x : Int} : (l.set k x).getD j 0 = if k = j ∧ k < l.length then x else l.getD j 0 := by
  rw [List.getD_eq_getElem?_getD, List.getD_eq_getElem?_getD, List.getElem?_set]
  by_cases c : k = j
  · subst c
    by_cases c2 : k < l.length
    · rw [if_pos rfl, if_pos c2, if_pos ⟨rfl, c2⟩]; rfl
    · rw [if_pos rfl, if_neg c2, if_neg (fun h => c2 h.2), List.getElem?_eq_none omG]
  · rw [if_neg c, if_neg (fun h => c h.1)]
theorem wP {l : List Int} {k : Nat} {x : Int} (h : l.getD k 0 = x) : l.set k x = l := by
  apply List.ext_getElem?
  intro j
  rw [List.getElem?_set]
  by_cases c : k = j
  · subst c
    rw [if_pos rfl]
    by_cases c2 : k < l.length
    · rw [if_pos c2, List.getElem?_eq_getElem c2]
      rw [List.getD_eq_getElem?_getD, List.getElem?_eq_getElem c2] at h
      rw [← h]; rfl
    · rw [if_neg c2, List.getElem?_eq_none omG]
  · rw [if_neg c]
theorem kM {p : V.Prog} {s0 : V.Path} {l : List Int} {f : Nat} (hl : ∀ x, x ∈ l → 0 ≤ x) : ∀ k, k ≤ l.length → ShrI p s0 l f k
  | 0, _ => by
    refine ⟨rfl, fun j _ => rfl, fun j => ⟨?_, Int.le_refl _⟩, qej _⟩
    show 0 ≤ l.getD j 0
    rw [List.getD_eq_getElem?_getD]
    by_cases c : j < l.length
    · rw [List.getElem?_eq_getElem c]; exact hl _ (List.getElem_mem c)
    · rw [List.getElem?_eq_none omG]; decide
  | k + 1, hk => by
    have h := kM (p := p) (s0 := s0) (f := f) hl k omG
    have e0 : 0 ≤ l.getD k 0 := by have := h.lo k; rw [h.hi k (Nat.le_refl _)] at this; exact this.1
    have hm : (((l.getD k 0).toNat : Nat) : Int) = l.getD k 0 := Int.toNat_of_nonneg e0
    have hle : shrK p s0 l f k ≤ (l.getD k 0).toNat := qZ _ 0
    have hq : eC (o4 p s0 f l) (o4 p s0 f ((o6 p s0 l f k).set k (shrK p s0 l f k : Nat))) = true := by
      refine pZ (Q := fun n => eC (o4 p s0 f l) (o4 p s0 f ((o6 p s0 l f k).set k (n : Nat)))) _ 0 ?_
      show eC (o4 p s0 f l) (o4 p s0 f ((o6 p s0 l f k).set k (((l.getD k 0).toNat + 0 : Nat) : Int))) = true
      rw [Nat.add_zero, hm, wP (h.hi k (Nat.le_refl _))]
      exact h.same
    refine ⟨?_, fun j hj => ?_, fun j => ?_, ?_⟩
    · rw [vJ, List.length_set]; exact h.len
    · rw [vJ, sS, if_neg omG]; exact h.hi j omG
    · rw [vJ, sS]
      split
      · next c =>
        have := c.1
        subst this
        exact ⟨by omega, by omega⟩
      · exact h.lo j
    · rw [vJ]; exact hq
theorem oW {p : V.Prog} {l x : List Int} (hl : InOk p l) (hx : x.length = l.length) (h : ∀ j, 0 ≤ x.getD j 0 ∧ x.getD j 0 ≤ l.getD j 0) : InOk p x := by
  refine ⟨by rw [hx]; exact hl.len, fun y hy => ?_⟩
  obtain ⟨j, hj, rfl⟩ := List.getElem_of_mem hy
  have q := h j
  rw [List.getD_eq_getElem?_getD, List.getElem?_eq_getElem hj, List.getD_eq_getElem?_getD, List.getElem?_eq_getElem (hx ▸ hj)] at q
  have w := k5 (hl.w _ (List.getElem_mem (hx ▸ hj)))
  exact xA w.1 q.1 (Int.lt_of_le_of_lt q.2 w.2.2)
noncomputable def gA (p : V.Prog) (l : List Int) (f : Nat) : List Int := o6 p (startP p) l f l.length
theorem lS {p : V.Prog} {l : List Int} (h : InOk p l) : ∀ x, x ∈ l → 0 ≤ x := fun x hx => (k5 (h.w x hx)).2.1
theorem pW {p : V.Prog} {l : List Int} {f : Nat} (h : n6 p l = true) : (gA p l f).length = l.length ∧ l.length ≤ 3 := by
  obtain ⟨hp, hl⟩ := tB h
  have q := g6 hp
  have := hl.len
  exact ⟨(kM (p := p) (s0 := startP p) (f := f) (lS hl) l.length (Nat.le_refl _)).len, by omega⟩
end Vg
