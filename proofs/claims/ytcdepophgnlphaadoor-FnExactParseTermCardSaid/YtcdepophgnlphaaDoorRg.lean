/- A region without loads of slices is walked operation by operation. No condition. -/
import Derived.Test.YtcdepophgnlphaaDoorBase
namespace Vg
open Go Go.Proofs
def sI (τ : Tys) (o : Oper) : Bool := match o.op with
  | .load T _ => match τ T with
    | some i => match i.desc with
      | .slice _ _ => true
      | _ => false
    | none => true
  | _ => false
theorem qak {τ : Tys} {S : AState} {o : Oper} (h : sI τ o = false) : mE τ S o = false := by
  cases hm : mE τ S o with
  | false => rfl
  | true =>
    exfalso
    unfold mE at hm
    unfold sI at h
    split at hm
    · rename_i T p ho
      rw [ho] at h
      simp only at h
      split at hm
      · split at hm
        · rename_i i hi ht
          rw [ht] at h
          simp only at h
          split at hm
          · rename_i hd _
            rw [hd] at h
            cases h
          · cases hm
        · cases hm
      · cases hm
    · cases hm
theorem qb4 {P : Program} {τ : Tys} {ops : Array Oper} (o : Oper) (rest : List Oper) (S : AState) (K : AState → Prop) : t6 P τ ops [o] S (fun S => t6 P τ ops rest S K) = t6 P τ ops (o :: rest) S K := by
  simp only [t6]
theorem nX {P : Program} {τ : Tys} {ops : Array Oper} : ∀ (n : Nat) (l : List Oper), l.length ≤ n → ∀ (S : AState) (K : AState → Prop), l.all (fun o => !sI τ o) = true → qA P τ ops l S K = t6 P τ ops l S K
  | _, [], _, S, K, _ => by simp only [qA, t6]
  | _, [o], _, S, K, _ => by simp only [qA]
  | _, [o, o'], _, S, K, _ => by simp only [qA]
  | 0, o1 :: o2 :: o3 :: rest, h, S, K, _ => by simp at h
  | n + 1, o1 :: o2 :: o3 :: rest, h, S, K, ha => by
    rw [List.all_cons, Bool.and_eq_true] at ha
    have h1 : mE τ S o1 = false := qak (by simpa using ha.1)
    have ih : (fun S => qA P τ ops (o2 :: o3 :: rest) S K) = fun S => t6 P τ ops (o2 :: o3 :: rest) S K :=
      funext fun S => nX n (o2 :: o3 :: rest) (by simp at h ⊢; omega) S K ha.2
    rw [qA, h1, ih, qb4]
theorem mX {P : Program} {τ : Tys} {i : Nat} {ops : Array Oper} {S : AState} {K : AX → AState → Prop} (h : ops.toList.all (fun o => !sI τ o) = true) (hA : t6 P τ ops ops.toList S fun S => xJ ops.toList S (K .normal)) : a8 P τ (.region i ops false) S K := by
  rw [a8, nX _ _ (Nat.le_refl _) _ _ h]; exact hA
theorem i7 {R G : Prop} (k : Bx R) (f : Bx R → G := by
    intro k
    first | ((with_reducible refine mX ?_ ?_); exact rfl; (conv => whnf); exact k.u) | ((conv => whnf); exact k.u)) : G := f k
structure WR (P : Program) (τ : Tys) (ops : Array Oper) (E : List Ent) (R f done : Nat) (S : AState) (K : AState → Prop) : Prop where
  h : awpR P τ ops E R f done S K
structure WRun (P : Program) (τ : Tys) (ops : Array Oper) (R : Nat) (first : Bool) (done done' : Nat) (l : List Ent) (S : AState) (K : AState → Prop) : Prop where
  h : n9 P τ ops R first done done' l S K
structure WAg (P : Program) (τ : Tys) (ops : Array Oper) (R done ar : Nat) (l : List Ent) (S : AState) (K : Prop) : Prop where
  h : kA P τ ops R done ar l S K
structure WEach (r : Ent → Prop) (l : List Ent) : Prop where
  h : pH r l
section
variable {P : Program} {τ : Tys} {ops : Array Oper} {E l : List Ent} {e : Ent} {R f done done' ar : Nat} {first : Bool} {S : AState} {K : AState → Prop} {k : Prop}
theorem aP : WR P τ ops E R f done S K = awpR P τ ops E R f done S K := propext ⟨fun h => h.h, fun h => ⟨h⟩⟩
theorem pK : WRun P τ ops R first done done' l S K = n9 P τ ops R first done done' l S K := propext ⟨fun h => h.h, fun h => ⟨h⟩⟩
theorem yX : WAg P τ ops R done ar l S k = kA P τ ops R done ar l S k := propext ⟨fun h => h.h, fun h => ⟨h⟩⟩
theorem qcw (h : K S) : WRun P τ ops R first done done' [] S K := ⟨by rw [n9]; exact h⟩
theorem WRun_go (hc : (e.p && s6 R done' e.a && (first || !s6 R done e.a)) = true) (h : j8 P τ ops [e.o] S fun S => WRun P τ ops R first done done' l S K) : WRun P τ ops R first done done' (e :: l) S K := by
  refine ⟨?_⟩
  rw [n9, hc]
  simpa only [pK] using h
theorem qcv (hc : (e.p && s6 R done' e.a && (first || !s6 R done e.a)) = false) (h : WRun P τ ops R first done done' l S K) : WRun P τ ops R first done done' (e :: l) S K := by
  refine ⟨?_⟩
  rw [n9, hc]
  exact h.h
theorem WAg_nil (h : k) : WAg P τ ops R done ar [] S k := ⟨by rw [kA]; exact h⟩
theorem WAg_go (hc : (e.p && s6 R done e.a && !Nat.testBit ar e.i) = true) (h : qD P τ ops e.o S (WAg P τ ops R done ar l S k)) : WAg P τ ops R done ar (e :: l) S k := by
  refine ⟨?_⟩
  rw [kA, hc]
  simpa only [yX] using h
theorem qcy (hc : (e.p && s6 R done e.a && !Nat.testBit ar e.i) = false) (h : WAg P τ ops R done ar l S k) : WAg P τ ops R done ar (e :: l) S k := by
  refine ⟨?_⟩
  rw [kA, hc]
  exact h.h
theorem WR_end (hb : Nat.beq done R = true) (h : K S) : WR P τ ops E R f done S K := by
  refine ⟨?_⟩
  cases f <;> (rw [awpR, hb]; exact h)
theorem WR_go (hb : Nat.beq done R = false) (h : WEach (fun r => t6 P τ ops [r.o] S fun S => WAg P τ ops R done r.a E S
    (WRun P τ ops R false done (Nat.lor done (2 ^ r.i)) E S fun S => WR P τ ops E R f (Nat.lor done (2 ^ r.i)) S K)) (zD R done E)) : WR P τ ops E R (f + 1) done S K := by
  refine ⟨?_⟩
  rw [awpR, hb]
  have h' := h.h
  simp only [yX, pK, aP] at h'
  simpa only [lV] using h'
theorem qcx {r : Ent → Prop} {l : List Ent} {e : Ent} (hl : l = [e]) (h : r e) : WEach r l := ⟨by rw [hl, pH]; exact h⟩
theorem awp_dw {i : Nat} {K : AX → AState → Prop} (hd : (jJ τ ops.toList && qH ops (preLen ops.toList)) = false)
    (h : match rB ops.toList 0 && yA ops.toList with
      | true => iF ops.toList 0 [] [] fun L => kC τ ops L L [] fun E => bB (n5 E) fun R => WRun P τ ops R true 0 0 E S fun S => WR P τ ops E R E.length 0 S (K .normal)
      | false => False) : a8 P τ (.region i ops true) S K := by
  rw [a8, hd]
  show nC P τ ops S (K .normal)
  unfold nC
  simp only [pK, aP] at h
  exact h
end
/-! ### blocks are forgotten in any order -/
theorem stD {R G : Prop} (k : Bx R) (f : Bx R → G := by
    intro k
    first | ((with_reducible refine qcw ?_); (conv => whnf); exact k.u) | ((with_reducible refine WRun_go ?_ ?_); exact rfl; (conv => whnf); exact k.u) | ((with_reducible refine qcv ?_ ?_); exact rfl; exact k.u) | ((with_reducible refine WAg_nil ?_); exact k.u) | ((with_reducible refine WAg_go ?_ ?_); exact rfl; (conv => whnf); exact k.u) | ((with_reducible refine qcy ?_ ?_); exact rfl; exact k.u) | ((with_reducible refine WR_end ?_ ?_); exact rfl; (conv => whnf); exact k.u) | ((with_reducible show WR _ _ _ _ _ _ _ _ _); refine WR_go rfl ?_; exact k.u) | ((with_reducible show WEach _ _); refine qcx rfl ?_; (conv => whnf); exact k.u)) : G := f k
theorem stW {R G : Prop} (k : Bx R) (f : Bx R → G := by
    intro k
    first | ((with_reducible refine mX ?_ ?_); exact rfl; (conv => whnf); exact k.u) | ((with_reducible refine awp_dw ?_ ?_); exact rfl; (conv => whnf); simp only [List.nil_append, List.cons_append]; exact k.u) | ((conv => whnf); exact k.u)) : G := f k
def fX (gs : List Nat) : List Oper → Bool
  | [] => false
  | o :: l => (match o.op with
    | .call { callee := .value (.func g), args := _, argTypes := _ } => gs.any (Nat.beq g)
    | _ => false) || fX gs l
theorem tX {P : Program} {τ : Tys} {ops : Array Oper} {S : AState} {K : AState → Prop} {A : Prop} (gs : List Nat) (_ : fX gs (ops.toList.take (preLen ops.toList)) = true)
    (h : match rB ops.toList 0 && yA ops.toList with
      | true => iF ops.toList 0 [] [] fun L => kC τ ops L L [] fun E => bB (n5 E) fun R => WRun P τ ops R true 0 0 E S fun S => WR P τ ops E R E.length 0 S K
      | false => False) : Alt A (nC P τ ops S K) := by
  refine .r ?_
  unfold nC
  simp only [pK, aP] at h
  exact h
end Vg
