/- A region without loads of slices is walked operation by operation. No condition. -/
import Derived.Test.YtgbjdifegilniaaGreatDoorBase
namespace Vg
open Go Go.Proofs
def rK (τ : Tys) (o : Oper) : Bool := match o.op with
  | .load T _ => match τ T with
    | some i => match i.desc with
      | .slice _ _ => true
      | _ => false
    | none => true
  | _ => false
theorem qc1 {τ : Tys} {S : AState} {o : Oper} (h : rK τ o = false) : bF τ S o = false := by
  cases hm : bF τ S o with
  | false => rfl
  | true =>
    exfalso
    unfold bF at hm
    unfold rK at h
    split at hm
    · rename_i T p ho
      rw [ho] at h
      simp only at h
      split at hm
      · split at hm
        · rename_i i hi ht
          rw [ht] at h
          simp only at h
          split at hm
          · rename_i hd _
            rw [hd] at h
            cases h
          · cases hm
        · cases hm
      · cases hm
    · cases hm
theorem qfg {P : Program} {τ : Tys} {ops : Array Oper} (o : Oper) (rest : List Oper) (S : AState) (K : AState → Prop) : d3 P τ ops [o] S (fun S => d3 P τ ops rest S K) = d3 P τ ops (o :: rest) S K := by
  simp only [d3]
theorem qay {P : Program} {τ : Tys} {ops : Array Oper} : ∀ (n : Nat) (l : List Oper), l.length ≤ n → ∀ (S : AState) (K : AState → Prop), l.all (fun o => !rK τ o) = true → s8 P τ ops l S K = d3 P τ ops l S K
  | _, [], _, S, K, _ => by simp only [s8, d3]
  | _, [o], _, S, K, _ => by simp only [s8]
  | _, [o, o'], _, S, K, _ => by simp only [s8]
  | 0, o1 :: o2 :: o3 :: rest, h, S, K, _ => by simp at h
  | n + 1, o1 :: o2 :: o3 :: rest, h, S, K, ha => by
    rw [List.all_cons, Bool.and_eq_true] at ha
    have h1 : bF τ S o1 = false := qc1 (by simpa using ha.1)
    have ih : (fun S => s8 P τ ops (o2 :: o3 :: rest) S K) = fun S => d3 P τ ops (o2 :: o3 :: rest) S K :=
      funext fun S => qay n (o2 :: o3 :: rest) (by simp at h ⊢; omega) S K ha.2
    rw [s8, h1, ih, qfg]
theorem j5 {P : Program} {τ : Tys} {i : Nat} {ops : Array Oper} {S : AState} {K : AX → AState → Prop} (h : ops.toList.all (fun o => !rK τ o) = true) (hA : d3 P τ ops ops.toList S fun S => dM ops.toList S (K .normal)) : d9 P τ (.region i ops false) S K := by
  rw [d9, qay _ _ (Nat.le_refl _) _ _ h]; exact hA
theorem stR {R G : Prop} (k : Bx R) (f : Bx R → G := by
    intro k
    first | ((with_reducible refine j5 ?_ ?_); exact rfl; (conv => whnf); exact k.u) | ((conv => whnf); exact k.u)) : G := f k
structure WR (P : Program) (τ : Tys) (ops : Array Oper) (E : List Ent) (R f done : Nat) (S : AState) (K : AState → Prop) : Prop where
  h : awpR P τ ops E R f done S K
structure WRun (P : Program) (τ : Tys) (ops : Array Oper) (R : Nat) (first : Bool) (done done' : Nat) (l : List Ent) (S : AState) (K : AState → Prop) : Prop where
  h : wA P τ ops R first done done' l S K
structure WAg (P : Program) (τ : Tys) (ops : Array Oper) (R done ar : Nat) (l : List Ent) (S : AState) (K : Prop) : Prop where
  h : rB P τ ops R done ar l S K
structure WEach (r : Ent → Prop) (l : List Ent) : Prop where
  h : eH r l
section
variable {P : Program} {τ : Tys} {ops : Array Oper} {E l : List Ent} {e : Ent} {R f done done' ar : Nat} {first : Bool} {S : AState} {K : AState → Prop} {k : Prop}
theorem tR : WR P τ ops E R f done S K = awpR P τ ops E R f done S K := propext ⟨fun h => h.h, fun h => ⟨h⟩⟩
theorem wM : WRun P τ ops R first done done' l S K = wA P τ ops R first done done' l S K := propext ⟨fun h => h.h, fun h => ⟨h⟩⟩
theorem qa9 : WAg P τ ops R done ar l S k = rB P τ ops R done ar l S k := propext ⟨fun h => h.h, fun h => ⟨h⟩⟩
theorem sH (h : K S) : WRun P τ ops R first done done' [] S K := ⟨by rw [wA]; exact h⟩
theorem tH (hc : (e.p && p7 R done' e.a && (first || !p7 R done e.a)) = true) (h : q9 P τ ops [e.o] S fun S => WRun P τ ops R first done done' l S K) : WRun P τ ops R first done done' (e :: l) S K := by
  refine ⟨?_⟩
  rw [wA, hc]
  simpa only [wM] using h
theorem rH (hc : (e.p && p7 R done' e.a && (first || !p7 R done e.a)) = false) (h : WRun P τ ops R first done done' l S K) : WRun P τ ops R first done done' (e :: l) S K := by
  refine ⟨?_⟩
  rw [wA, hc]
  exact h.h
theorem yH (h : k) : WAg P τ ops R done ar [] S k := ⟨by rw [rB]; exact h⟩
theorem zH (hc : (e.p && p7 R done e.a && !Nat.testBit ar e.i) = true) (h : sF P τ ops e.o S (WAg P τ ops R done ar l S k)) : WAg P τ ops R done ar (e :: l) S k := by
  refine ⟨?_⟩
  rw [rB, hc]
  simpa only [qa9] using h
theorem xH (hc : (e.p && p7 R done e.a && !Nat.testBit ar e.i) = false) (h : WAg P τ ops R done ar l S k) : WAg P τ ops R done ar (e :: l) S k := by
  refine ⟨?_⟩
  rw [rB, hc]
  exact h.h
theorem vH (hb : Nat.beq done R = true) (h : K S) : WR P τ ops E R f done S K := by
  refine ⟨?_⟩
  cases f <;> (rw [awpR, hb]; exact h)
theorem uH (hb : Nat.beq done R = false) (h : WEach (fun r => d3 P τ ops [r.o] S fun S => WAg P τ ops R done r.a E S
    (WRun P τ ops R false done (Nat.lor done (2 ^ r.i)) E S fun S => WR P τ ops E R f (Nat.lor done (2 ^ r.i)) S K)) (zF R done E)) : WR P τ ops E R (f + 1) done S K := by
  refine ⟨?_⟩
  rw [awpR, hb]
  have h' := h.h
  simp only [qa9, wM, tR] at h'
  simpa only [eZ] using h'
theorem wH {r : Ent → Prop} {l : List Ent} {e : Ent} (hl : l = [e]) (h : r e) : WEach r l := ⟨by rw [hl, eH]; exact h⟩
theorem qf7 {r : Ent → Prop} {l l' : List Ent} {e e' : Ent} (hl : l = e :: e' :: l') (h : r e) (h' : WEach r (e' :: l')) : WEach r l := ⟨by rw [hl, eH]; exact ⟨h, h'.h⟩; intro x; cases x⟩
theorem aK {i : Nat} {K : AX → AState → Prop} (hd : (gL τ ops.toList && sJ ops (preLen ops.toList)) = false)
    (h : match dD ops.toList 0 && hC ops.toList with
      | true => lH ops.toList 0 [] [] fun L => dE τ ops L L [] fun E => lC (m6 E) fun R => WRun P τ ops R true 0 0 E S fun S => WR P τ ops E R E.length 0 S (K .normal)
      | false => False) : d9 P τ (.region i ops true) S K := by
  rw [d9, hd]
  show iE P τ ops S (K .normal)
  unfold iE
  simp only [wM, tR] at h
  exact h
end
/-! ### blocks are forgotten in any order -/
theorem stW {R G : Prop} (k : Bx R) (f : Bx R → G := by
    intro k
    first | ((with_reducible refine j5 ?_ ?_); exact rfl; (conv => whnf); exact k.u) | ((with_reducible refine aK ?_ ?_); exact rfl; (conv => whnf); simp only [List.nil_append, List.cons_append]; exact k.u) | ((conv => whnf); exact k.u)) : G := f k
def qap (gs : List Nat) : List Oper → Bool
  | [] => false
  | o :: l => (match o.op with
    | .call { callee := .value (.func g), args := _, argTypes := _ } => gs.any (Nat.beq g)
    | _ => false) || qap gs l
theorem qa5 {P : Program} {τ : Tys} {ops : Array Oper} {S : AState} {K : AState → Prop} {A : Prop} (gs : List Nat) (_ : qap gs (ops.toList.take (preLen ops.toList)) = true)
    (h : match dD ops.toList 0 && hC ops.toList with
      | true => lH ops.toList 0 [] [] fun L => dE τ ops L L [] fun E => lC (m6 E) fun R => WRun P τ ops R true 0 0 E S fun S => WR P τ ops E R E.length 0 S K
      | false => False) : Alt A (iE P τ ops S K) := by
  refine .r ?_
  unfold iE
  simp only [wM, tR] at h
  exact h
end Vg
