/- Literals of slices whose elements own slices. Conditions: what is taken in is used up. -/
import Derived.Test.YtlopkgjiccppfaaDoorTree
import Derived.Test.YtlopkgjiccppfaaDoorSound10
namespace Vg
open Go
section
variable {P : Program} {τ : Tys} {w0 : World} {G : GP} {Im0 : Nat → Nat → Prop} {ρ : Rho} {Im : Nat → Nat → Prop} {a : Act} {w : World}

theorem elemsT_ok {κ : K} {zs : List Dat} {e : Operand → AV} (hz : zs.length = κ.sz) (hE : ∀ x, AVR ρ w.heap Im (e x) (a.eval x)) :
    ∀ (k : Nat) (parts : List (Nat × Operand)) (S : AState) (K : AState → List κ.T → Prop), elemsT κ zs e k parts S K → Rel w0 G Im0 S ρ Im a w →
      ∃ (S' : AState) (ys : List κ.T) (Fs : Nat → Nat → Nat → Prop), K S' ys ∧ Rel w0 G Im0 S' ρ Im a w ∧ ys.length = parts.length ∧
        (∀ (m : Nat) (p : Nat × Operand), parts[m]? = some p → p.1 = k + m ∧ (a.eval p.2).cells.size = κ.sz ∧
          ∀ j, j < κ.sz → ∃ c, (a.eval p.2).cells[j]? = some c ∧ RepT w.heap (cellOf κ ys m j) c (Fs m j)) ∧
        (∀ m j x, Fs m j x → Free w0 G S'.blk ρ Im w x) ∧ (∀ m j m' j' x, Fs m j x → Fs m' j' x → m = m' ∧ j = j') ∧
        (∀ m j x, Fs m j x → ∃ i r, S.blk i ≠ none ∧ S'.blk i = none ∧ ρ i = some r ∧ r.has x) ∧ ∀ j, S'.blk j ≠ none → S.blk j ≠ none
  | k, [], S, K, h, hR => ⟨S, [], fun _ _ _ => False, h, hR, rfl, by simp, fun _ _ _ x => x.elim, fun _ _ _ _ _ x => x.elim, fun _ _ _ x => x.elim, fun _ x => x⟩
  | k, (i, x) :: rest, S, K, h, hR => by
    simp only [elemsT] at h
    cases hb : Nat.beq i k with
    | false => simp [hb] at h
    | true =>
      simp only [hb] at h
      have hik : i = k := Nat.eq_of_beq_eq_true hb
      cases hc : (e x).cells1 with
      | none => simp [hc] at h
      | some vs =>
        simp only [hc] at h
        have hv := (hE x).cells1 hc
        obtain ⟨S1, ds, F1, h1, hR1, hl, hl', hds, hFr1, hDs1, hKd1, hsub1⟩ := takeDs_ok zs vs S (fun j => (a.eval x).cells.getD j undef) _ h hR (fun j y hy => by
          obtain ⟨c, h1, h2⟩ := hv.2 j y hy
          simpa [h1] using h2)
        cases hd : κ.dec ds with
        | none => simp [hd] at h1
        | some y =>
          simp only [hd] at h1
          obtain ⟨S2, ys, F2, h2, hR2, hyl, hys, hFr2, hDs2, hKd2, hsub2⟩ := elemsT_ok hz hE (k + 1) rest S1 _ h1 hR1
          have far : ∀ j m j' z, F1 j z → ¬ F2 m j' z := fun j m j' z hx hy => by
            obtain ⟨i, r, e1, e2, e3, e4⟩ := hKd2 m j' z hy
            exact (hFr1 j z hx).far i r e1 e3 e4
          refine ⟨S2, y :: ys, fun m => match m with | 0 => F1 | m + 1 => F2 m, h2, hR2, by simp [hyl], fun m p hp => ?_, fun m j z hz' => ?_, fun m j m' j' z q1 q2 => ?_, fun m j z hz' => ?_, fun j hj => hsub1 j (hsub2 j hj)⟩
          · cases m with
            | zero =>
              simp at hp; subst hp
              have hsz : (a.eval x).cells.size = κ.sz := by rw [hv.1, hl', hz]
              refine ⟨hik, hsz, fun j hj => ?_⟩
              obtain ⟨d, hd1, hd2⟩ := enc_of_dec hd j hj
              have hlt : j < (a.eval x).cells.size := by omega
              refine ⟨(a.eval x).cells[j], Array.getElem?_eq_getElem hlt, ?_⟩
              have := hds j d hd1
              simp only [Array.getD_eq_getD_getElem?, Array.getElem?_eq_getElem hlt, Option.getD_some] at this
              simp only [cellOf, List.getD_cons_zero, hd2]
              exact this
            | succ m =>
              simp at hp
              obtain ⟨q1, q2, q3⟩ := hys m p hp
              exact ⟨by omega, q2, q3⟩
          · cases m with
            | zero => exact (hFr1 j z hz').mono hsub2
            | succ m => exact hFr2 m j z hz'
          · cases m with
            | zero => cases m' with
              | zero => exact ⟨rfl, hDs1 j j' z q1 q2⟩
              | succ m' => exact absurd q2 (far j m' j' z q1)
            | succ m => cases m' with
              | zero => exact absurd q1 (far j' m j z q2)
              | succ m' => obtain ⟨e1, e2⟩ := hDs2 m j m' j' z q1 q2; exact ⟨by omega, e2⟩
          · cases m with
            | zero =>
              obtain ⟨i, r, e1, e2, e3, e4⟩ := hKd1 j z hz'
              refine ⟨i, r, e1, ?_, e3, e4⟩
              cases e5 : S2.blk i with
              | none => rfl
              | some b => exact absurd e2 (hsub2 i (by rw [e5]; exact fun h => by cases h))
            | succ m =>
              obtain ⟨i, r, e1, e2, e3, e4⟩ := hKd2 m j z hz'
              exact ⟨i, r, hsub1 i e1, e2, e3, e4⟩
end
end Vg
