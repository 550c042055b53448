/- A region without loads of slices is walked operation by operation. No condition. -/
import Derived.Test.YtjlffejifadkiaaGreatDoorBase
namespace Vg
open Go Go.Proofs
def gM (τ : Tys) (o : Oper) : Bool := match o.op with
  | .load T _ => match τ T with
    | some i => match i.desc with
      | .slice _ _ => true
      | _ => false
    | none => true
  | _ => false
theorem qgl {τ : Tys} {S : AState} {o : Oper} (h : gM τ o = false) : pI τ S o = false := by
  cases hm : pI τ S o with
  | false => rfl
  | true =>
    exfalso
    unfold pI at hm
    unfold gM at h
    split at hm
    · rename_i T p ho
      rw [ho] at h
      simp only at h
      split at hm
      · split at hm
        · rename_i i hi ht
          rw [ht] at h
          simp only at h
          split at hm
          · rename_i hd _
            rw [hd] at h
            cases h
          · cases hm
        · cases hm
      · cases hm
    · cases hm
theorem qit {P : Program} {τ : Tys} {ops : Array Oper} (o : Oper) (rest : List Oper) (S : AState) (K : AState → Prop) : k7 P τ ops [o] S (fun S => k7 P τ ops rest S K) = k7 P τ ops (o :: rest) S K := by
  simp only [k7]
theorem qdg {P : Program} {τ : Tys} {ops : Array Oper} : ∀ (n : Nat) (l : List Oper), l.length ≤ n → ∀ (S : AState) (K : AState → Prop), l.all (fun o => !gM τ o) = true → nD P τ ops l S K = k7 P τ ops l S K
  | _, [], _, S, K, _ => by simp only [nD, k7]
  | _, [o], _, S, K, _ => by simp only [nD]
  | _, [o, o'], _, S, K, _ => by simp only [nD]
  | 0, o1 :: o2 :: o3 :: rest, h, S, K, _ => by simp at h
  | n + 1, o1 :: o2 :: o3 :: rest, h, S, K, ha => by
    rw [List.all_cons, Bool.and_eq_true] at ha
    have h1 : pI τ S o1 = false := qgl (by simpa using ha.1)
    have ih : (fun S => nD P τ ops (o2 :: o3 :: rest) S K) = fun S => k7 P τ ops (o2 :: o3 :: rest) S K :=
      funext fun S => qdg n (o2 :: o3 :: rest) (by simp at h ⊢; omega) S K ha.2
    rw [nD, h1, ih, qit]
theorem qdf {P : Program} {τ : Tys} {i : Nat} {ops : Array Oper} {S : AState} {K : AX → AState → Prop} (h : ops.toList.all (fun o => !gM τ o) = true) (hA : k7 P τ ops ops.toList S fun S => dO ops.toList S (K .normal)) : y9 P τ (.region i ops false) S K := by
  rw [y9, qdg _ _ (Nat.le_refl _) _ _ h]; exact hA
theorem l5 {R G : Prop} (k : Bx R) (f : Bx R → G := by
    intro k
    first | ((with_reducible refine qdf ?_ ?_); exact rfl; (conv => whnf); exact k.u) | ((conv => whnf); exact k.u)) : G := f k
structure WR (P : Program) (τ : Tys) (ops : Array Oper) (E : List Ent) (R f done : Nat) (S : AState) (K : AState → Prop) : Prop where
  h : awpR P τ ops E R f done S K
structure WRun (P : Program) (τ : Tys) (ops : Array Oper) (R : Nat) (first : Bool) (done done' : Nat) (l : List Ent) (S : AState) (K : AState → Prop) : Prop where
  h : gC P τ ops R first done done' l S K
structure WAg (P : Program) (τ : Tys) (ops : Array Oper) (R done ar : Nat) (l : List Ent) (S : AState) (K : Prop) : Prop where
  h : wC P τ ops R done ar l S K
structure WEach (r : Ent → Prop) (l : List Ent) : Prop where
  h : dJ r l
section
variable {P : Program} {τ : Tys} {ops : Array Oper} {E l : List Ent} {e : Ent} {R f done done' ar : Nat} {first : Bool} {S : AState} {K : AState → Prop} {k : Prop}
theorem uU : WR P τ ops E R f done S K = awpR P τ ops E R f done S K := propext ⟨fun h => h.h, fun h => ⟨h⟩⟩
theorem zO : WRun P τ ops R first done done' l S K = gC P τ ops R first done done' l S K := propext ⟨fun h => h.h, fun h => ⟨h⟩⟩
theorem qdx : WAg P τ ops R done ar l S k = wC P τ ops R done ar l S k := propext ⟨fun h => h.h, fun h => ⟨h⟩⟩
theorem qjm (h : K S) : WRun P τ ops R first done done' [] S K := ⟨by rw [gC]; exact h⟩
theorem WRun_go (hc : (e.p && j7 R done' e.a && (first || !j7 R done e.a)) = true) (h : fA P τ ops [e.o] S fun S => WRun P τ ops R first done done' l S K) : WRun P τ ops R first done done' (e :: l) S K := by
  refine ⟨?_⟩
  rw [gC, hc]
  simpa only [zO] using h
theorem qjl (hc : (e.p && j7 R done' e.a && (first || !j7 R done e.a)) = false) (h : WRun P τ ops R first done done' l S K) : WRun P τ ops R first done done' (e :: l) S K := by
  refine ⟨?_⟩
  rw [gC, hc]
  exact h.h
theorem WAg_nil (h : k) : WAg P τ ops R done ar [] S k := ⟨by rw [wC]; exact h⟩
theorem WAg_go (hc : (e.p && j7 R done e.a && !Nat.testBit ar e.i) = true) (h : uO P τ ops e.o S (WAg P τ ops R done ar l S k)) : WAg P τ ops R done ar (e :: l) S k := by
  refine ⟨?_⟩
  rw [wC, hc]
  simpa only [qdx] using h
theorem qjo (hc : (e.p && j7 R done e.a && !Nat.testBit ar e.i) = false) (h : WAg P τ ops R done ar l S k) : WAg P τ ops R done ar (e :: l) S k := by
  refine ⟨?_⟩
  rw [wC, hc]
  exact h.h
theorem WR_end (hb : Nat.beq done R = true) (h : K S) : WR P τ ops E R f done S K := by
  refine ⟨?_⟩
  cases f <;> (rw [awpR, hb]; exact h)
theorem WR_go (hb : Nat.beq done R = false) (h : WEach (fun r => k7 P τ ops [r.o] S fun S => WAg P τ ops R done r.a E S
    (WRun P τ ops R false done (Nat.lor done (2 ^ r.i)) E S fun S => WR P τ ops E R f (Nat.lor done (2 ^ r.i)) S K)) (eI R done E)) : WR P τ ops E R (f + 1) done S K := by
  refine ⟨?_⟩
  rw [awpR, hb]
  have h' := h.h
  simp only [qdx, zO, uU] at h'
  simpa only [qbw] using h'
theorem qjn {r : Ent → Prop} {l : List Ent} {e : Ent} (hl : l = [e]) (h : r e) : WEach r l := ⟨by rw [hl, dJ]; exact h⟩
theorem x6 {r : Ent → Prop} {l l' : List Ent} {e e' : Ent} (hl : l = e :: e' :: l') (h : r e) (h' : WEach r (e' :: l')) : WEach r l := ⟨by rw [hl, dJ]; exact ⟨h, h'.h⟩; intro x; cases x⟩
theorem aU {i : Nat} {K : AX → AState → Prop} (hd : (cN τ ops.toList && eL ops (preLen ops.toList)) = false)
    (h : match aF ops.toList 0 && tD ops.toList with
      | true => jJ ops.toList 0 [] [] fun L => lG τ ops L L [] fun E => cE (d6 E) fun R => WRun P τ ops R true 0 0 E S fun S => WR P τ ops E R E.length 0 S (K .normal)
      | false => False) : y9 P τ (.region i ops true) S K := by
  rw [y9, hd]
  show nG P τ ops S (K .normal)
  unfold nG
  simp only [zO, uU] at h
  exact h
end
/-! ### blocks are forgotten in any order -/
theorem lK (a b : Nat) (v : AV) : (v.killC a).killC b = (v.killC b).killC a := by
  have hj : ∀ j : Nat, Nat.beq j a = true ∨ Nat.beq j a = false := fun j => by cases Nat.beq j a <;> simp
  have hk : ∀ j : Nat, Nat.beq j b = true ∨ Nat.beq j b = false := fun j => by cases Nat.beq j b <;> simp
  cases v with
  | row j => rcases hj j with h1 | h1 <;> rcases hk j with h2 | h2 <;> simp [AV.killC, h1, h2]
  | mp j => rcases hj j with h1 | h1 <;> rcases hk j with h2 | h2 <;> simp [AV.killC, h1, h2]
  | ptr j o => rcases hj j with h1 | h1 <;> rcases hk j with h2 | h2 <;> simp [AV.killC, h1, h2]
  | rptr j k o sz => rcases hj j with h1 | h1 <;> rcases hk j with h2 | h2 <;> simp [AV.killC, h1, h2]
  | _ => rfl
theorem map_comm {α : Type} {f g : α → α} (h : ∀ x, f (g x) = g (f x)) (l : List α) : (l.map g).map f = (l.map f).map g := by
  rw [List.map_map, List.map_map]
  exact List.map_congr_left fun x _ => h x
theorem qgy (a b : Nat) (v : AV) : (v.killM a).killM b = (v.killM b).killM a := by
  have hj : ∀ j : Nat, Nat.beq j a = true ∨ Nat.beq j a = false := fun j => by cases Nat.beq j a <;> simp
  have hk : ∀ j : Nat, Nat.beq j b = true ∨ Nat.beq j b = false := fun j => by cases Nat.beq j b <;> simp
  cases v with
  | row j => rcases hj j with h1 | h1 <;> rcases hk j with h2 | h2 <;> simp [AV.killM, h1, h2]
  | mp j => rcases hj j with h1 | h1 <;> rcases hk j with h2 | h2 <;> simp [AV.killM, h1, h2]
  | ptr j o => rcases hj j with h1 | h1 <;> rcases hk j with h2 | h2 <;> simp [AV.killM, h1, h2]
  | rptr j k o sz => rcases hj j with h1 | h1 <;> rcases hk j with h2 | h2 <;> simp [AV.killM, h1, h2]
  | agg l => simp only [AV.killM, map_comm (fun x => lK b a x)]
  | fn f l => simp only [AV.killM, map_comm (fun x => lK b a x)]
  | _ => rfl
theorem kill_comm (a b : Nat) (v : AV) : (v.kill a).kill b = (v.kill b).kill a := by
  have hj : ∀ j : Nat, Nat.beq j a = true ∨ Nat.beq j a = false := fun j => by cases Nat.beq j a <;> simp
  have hk : ∀ j : Nat, Nat.beq j b = true ∨ Nat.beq j b = false := fun j => by cases Nat.beq j b <;> simp
  cases v with
  | row j => rcases hj j with h1 | h1 <;> rcases hk j with h2 | h2 <;> simp [AV.kill, h1, h2]
  | mp j => rcases hj j with h1 | h1 <;> rcases hk j with h2 | h2 <;> simp [AV.kill, h1, h2]
  | ptr j o => rcases hj j with h1 | h1 <;> rcases hk j with h2 | h2 <;> simp [AV.kill, h1, h2]
  | rptr j k o sz => rcases hj j with h1 | h1 <;> rcases hk j with h2 | h2 <;> simp [AV.kill, h1, h2]
  | agg l => simp only [AV.kill, map_comm (fun x => lK b a x)]
  | fn f l => simp only [AV.kill, map_comm (fun x => lK b a x)]
  | tup l => simp only [AV.kill, map_comm (fun x => qgy b a x)]
  | _ => rfl
theorem okill_comm (a b : Nat) (o : Option Blk) : (o.map (Blk.kill a)).map (Blk.kill b) = (o.map (Blk.kill b)).map (Blk.kill a) := by
  cases o with
  | none => rfl
  | some x => cases x <;> simp only [Option.map_some, Blk.kill, map_comm (fun x => lK a b x)]
theorem killT_at (f : Nat → AV) (i j : Nat) : sB f i j = (f j).kill i := rfl
theorem r5 {R G : Prop} (k : Bx R) (f : Bx R → G := by
    intro k
    first | ((with_reducible refine qjm ?_); (conv => whnf); exact k.u) | ((with_reducible refine WRun_go ?_ ?_); exact rfl; (conv => whnf); exact k.u) | ((with_reducible refine qjl ?_ ?_); exact rfl; exact k.u) | ((with_reducible refine WAg_nil ?_); exact k.u) | ((with_reducible refine WAg_go ?_ ?_); exact rfl; (conv => whnf); exact k.u) | ((with_reducible refine qjo ?_ ?_); exact rfl; exact k.u) | ((with_reducible refine WR_end ?_ ?_); exact rfl; (conv => whnf); exact k.u) | ((with_reducible show WR _ _ _ _ _ _ _ _ _); refine WR_go rfl ?_; exact k.u) | ((with_reducible show WEach _ _); refine qjn rfl ?_; (conv => whnf); exact k.u)) : G := f k
theorem z1 {R G : Prop} (k : Bx R) (f : Bx R → G := by
    intro k
    first | ((with_reducible refine qdf ?_ ?_); exact rfl; (conv => whnf); exact k.u) | ((with_reducible refine aU ?_ ?_); exact rfl; (conv => whnf); simp only [List.nil_append, List.cons_append]; exact k.u) | ((conv => whnf); exact k.u)) : G := f k
end Vg
