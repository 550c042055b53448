/- A region without loads of slices is walked operation by operation. No condition. -/
import Derived.Test.YtjlffejifadkiaaGreatDoorBase
namespace Vg
open Go Go.Proofs
def slLoad (τ : Tys) (o : Oper) : Bool := match o.op with
  | .load T _ => match τ T with
    | some i => match i.desc with
      | .slice _ _ => true
      | _ => false
    | none => true
  | _ => false
theorem markB_no {τ : Tys} {S : AState} {o : Oper} (h : slLoad τ o = false) : markB τ S o = false := by
  cases hm : markB τ S o with
  | false => rfl
  | true =>
    exfalso
    unfold markB at hm
    unfold slLoad at h
    split at hm
    · rename_i T p ho
      rw [ho] at h
      simp only at h
      split at hm
      · split at hm
        · rename_i i hi ht
          rw [ht] at h
          simp only at h
          split at hm
          · rename_i hd _
            rw [hd] at h
            cases h
          · cases hm
        · cases hm
      · cases hm
    · cases hm
theorem qpj {P : Program} {τ : Tys} {ops : Array Oper} (o : Oper) (rest : List Oper) (S : AState) (K : AState → Prop) : qbm P τ ops [o] S (fun S => qbm P τ ops rest S K) = qbm P τ ops (o :: rest) S K := by
  simp only [qbm]
theorem awpL_eq {P : Program} {τ : Tys} {ops : Array Oper} : ∀ (n : Nat) (l : List Oper), l.length ≤ n → ∀ (S : AState) (K : AState → Prop), l.all (fun o => !slLoad τ o) = true → awpL P τ ops l S K = qbm P τ ops l S K
  | _, [], _, S, K, _ => by simp only [awpL, qbm]
  | _, [o], _, S, K, _ => by simp only [awpL]
  | _, [o, o'], _, S, K, _ => by simp only [awpL]
  | 0, o1 :: o2 :: o3 :: rest, h, S, K, _ => by simp at h
  | n + 1, o1 :: o2 :: o3 :: rest, h, S, K, ha => by
    rw [List.all_cons, Bool.and_eq_true] at ha
    have h1 : markB τ S o1 = false := markB_no (by simpa using ha.1)
    have ih : (fun S => awpL P τ ops (o2 :: o3 :: rest) S K) = fun S => qbm P τ ops (o2 :: o3 :: rest) S K :=
      funext fun S => awpL_eq n (o2 :: o3 :: rest) (by simp at h ⊢; omega) S K ha.2
    rw [awpL, h1, ih, qpj]
theorem awp_rg {P : Program} {τ : Tys} {i : Nat} {ops : Array Oper} {S : AState} {K : AX → AState → Prop} (h : ops.toList.all (fun o => !slLoad τ o) = true) (hA : qbm P τ ops ops.toList S fun S => qie ops.toList S (K .normal)) : awp P τ (.region i ops false) S K := by
  rw [awp, awpL_eq _ _ (Nat.le_refl _) _ _ h]; exact hA
theorem stR {R G : Prop} (k : Bx R) (f : Bx R → G := by
    intro k
    first | ((with_reducible refine awp_rg ?_ ?_); exact rfl; (conv => whnf); exact k.u) | ((conv => whnf); exact k.u)) : G := f k
end Vg

namespace Vg
open Go Go.Proofs
structure WR (P : Program) (τ : Tys) (ops : Array Oper) (E : List Ent) (R f done : Nat) (S : AState) (K : AState → Prop) : Prop where
  h : awpR P τ ops E R f done S K
structure WRun (P : Program) (τ : Tys) (ops : Array Oper) (R : Nat) (first : Bool) (done done' : Nat) (l : List Ent) (S : AState) (K : AState → Prop) : Prop where
  h : runP P τ ops R first done done' l S K
structure WAg (P : Program) (τ : Tys) (ops : Array Oper) (R done ar : Nat) (l : List Ent) (S : AState) (K : Prop) : Prop where
  h : qem P τ ops R done ar l S K
structure WEach (r : Ent → Prop) (l : List Ent) : Prop where
  h : eachR r l
section
variable {P : Program} {τ : Tys} {ops : Array Oper} {E l : List Ent} {e : Ent} {R f done done' ar : Nat} {first : Bool} {S : AState} {K : AState → Prop} {k : Prop}
theorem WR_eq : WR P τ ops E R f done S K = awpR P τ ops E R f done S K := propext ⟨fun h => h.h, fun h => ⟨h⟩⟩
theorem qmm : WRun P τ ops R first done done' l S K = runP P τ ops R first done done' l S K := propext ⟨fun h => h.h, fun h => ⟨h⟩⟩
theorem WAg_eq : WAg P τ ops R done ar l S k = qem P τ ops R done ar l S k := propext ⟨fun h => h.h, fun h => ⟨h⟩⟩
theorem WRun_nil (h : K S) : WRun P τ ops R first done done' [] S K := ⟨by rw [runP]; exact h⟩
theorem WRun_go (hc : (e.p && enB R done' e.a && (first || !enB R done e.a)) = true) (h : qcv P τ ops [e.o] S fun S => WRun P τ ops R first done done' l S K) : WRun P τ ops R first done done' (e :: l) S K := by
  refine ⟨?_⟩
  rw [runP, hc]
  simpa only [qmm] using h
theorem WRun_skip (hc : (e.p && enB R done' e.a && (first || !enB R done e.a)) = false) (h : WRun P τ ops R first done done' l S K) : WRun P τ ops R first done done' (e :: l) S K := by
  refine ⟨?_⟩
  rw [runP, hc]
  exact h.h
theorem WAg_nil (h : k) : WAg P τ ops R done ar [] S k := ⟨by rw [qem]; exact h⟩
theorem WAg_go (hc : (e.p && enB R done e.a && !Nat.testBit ar e.i) = true) (h : again P τ ops e.o S (WAg P τ ops R done ar l S k)) : WAg P τ ops R done ar (e :: l) S k := by
  refine ⟨?_⟩
  rw [qem, hc]
  simpa only [WAg_eq] using h
theorem WAg_skip (hc : (e.p && enB R done e.a && !Nat.testBit ar e.i) = false) (h : WAg P τ ops R done ar l S k) : WAg P τ ops R done ar (e :: l) S k := by
  refine ⟨?_⟩
  rw [qem, hc]
  exact h.h
theorem WR_end (hb : Nat.beq done R = true) (h : K S) : WR P τ ops E R f done S K := by
  refine ⟨?_⟩
  cases f <;> (rw [awpR, hb]; exact h)
theorem WR_go (hb : Nat.beq done R = false) (h : WEach (fun r => qbm P τ ops [r.o] S fun S => WAg P τ ops R done r.a E S
    (WRun P τ ops R false done (Nat.lor done (2 ^ r.i)) E S fun S => WR P τ ops E R f (Nat.lor done (2 ^ r.i)) S K)) (qkk R done E)) : WR P τ ops E R (f + 1) done S K := by
  refine ⟨?_⟩
  rw [awpR, hb]
  have h' := h.h
  simp only [WAg_eq, qmm, WR_eq] at h'
  simpa only [qkw] using h'
theorem WEach_one {r : Ent → Prop} {l : List Ent} {e : Ent} (hl : l = [e]) (h : r e) : WEach r l := ⟨by rw [hl, eachR]; exact h⟩
theorem qag {r : Ent → Prop} {l l' : List Ent} {e e' : Ent} (hl : l = e :: e' :: l') (h : r e) (h' : WEach r (e' :: l')) : WEach r l := ⟨by rw [hl, eachR]; exact ⟨h, h'.h⟩; intro x; cases x⟩
theorem awp_dw {i : Nat} {K : AX → AState → Prop} (hd : (qe6 τ ops.toList && qnx ops (preLen ops.toList)) = false)
    (h : match qei ops.toList 0 && qfj ops.toList with
      | true => ancK ops.toList 0 [] [] fun L => qnu τ ops L L [] fun E => qfm (qb3 E) fun R => WRun P τ ops R true 0 0 E S fun S => WR P τ ops E R E.length 0 S (K .normal)
      | false => False) : awp P τ (.region i ops true) S K := by
  rw [awp, hd]
  show qe3 P τ ops S (K .normal)
  unfold qe3
  simp only [qmm, WR_eq] at h
  exact h
end
/-! ### blocks are forgotten in any order -/
theorem qd8 (a b : Nat) (v : AV) : (v.killC a).killC b = (v.killC b).killC a := by
  have hj : ∀ j : Nat, Nat.beq j a = true ∨ Nat.beq j a = false := fun j => by cases Nat.beq j a <;> simp
  have hk : ∀ j : Nat, Nat.beq j b = true ∨ Nat.beq j b = false := fun j => by cases Nat.beq j b <;> simp
  cases v with
  | row j => rcases hj j with h1 | h1 <;> rcases hk j with h2 | h2 <;> simp [AV.killC, h1, h2]
  | mp j => rcases hj j with h1 | h1 <;> rcases hk j with h2 | h2 <;> simp [AV.killC, h1, h2]
  | ptr j o => rcases hj j with h1 | h1 <;> rcases hk j with h2 | h2 <;> simp [AV.killC, h1, h2]
  | rptr j k o sz => rcases hj j with h1 | h1 <;> rcases hk j with h2 | h2 <;> simp [AV.killC, h1, h2]
  | _ => rfl
theorem map_comm {α : Type} {f g : α → α} (h : ∀ x, f (g x) = g (f x)) (l : List α) : (l.map g).map f = (l.map f).map g := by
  rw [List.map_map, List.map_map]
  exact List.map_congr_left fun x _ => h x
theorem killM_comm (a b : Nat) (v : AV) : (v.killM a).killM b = (v.killM b).killM a := by
  have hj : ∀ j : Nat, Nat.beq j a = true ∨ Nat.beq j a = false := fun j => by cases Nat.beq j a <;> simp
  have hk : ∀ j : Nat, Nat.beq j b = true ∨ Nat.beq j b = false := fun j => by cases Nat.beq j b <;> simp
  cases v with
  | row j => rcases hj j with h1 | h1 <;> rcases hk j with h2 | h2 <;> simp [AV.killM, h1, h2]
  | mp j => rcases hj j with h1 | h1 <;> rcases hk j with h2 | h2 <;> simp [AV.killM, h1, h2]
  | ptr j o => rcases hj j with h1 | h1 <;> rcases hk j with h2 | h2 <;> simp [AV.killM, h1, h2]
  | rptr j k o sz => rcases hj j with h1 | h1 <;> rcases hk j with h2 | h2 <;> simp [AV.killM, h1, h2]
  | agg l => simp only [AV.killM, map_comm (fun x => qd8 b a x)]
  | fn f l => simp only [AV.killM, map_comm (fun x => qd8 b a x)]
  | _ => rfl
theorem kill_comm (a b : Nat) (v : AV) : (v.kill a).kill b = (v.kill b).kill a := by
  have hj : ∀ j : Nat, Nat.beq j a = true ∨ Nat.beq j a = false := fun j => by cases Nat.beq j a <;> simp
  have hk : ∀ j : Nat, Nat.beq j b = true ∨ Nat.beq j b = false := fun j => by cases Nat.beq j b <;> simp
  cases v with
  | row j => rcases hj j with h1 | h1 <;> rcases hk j with h2 | h2 <;> simp [AV.kill, h1, h2]
  | mp j => rcases hj j with h1 | h1 <;> rcases hk j with h2 | h2 <;> simp [AV.kill, h1, h2]
  | ptr j o => rcases hj j with h1 | h1 <;> rcases hk j with h2 | h2 <;> simp [AV.kill, h1, h2]
  | rptr j k o sz => rcases hj j with h1 | h1 <;> rcases hk j with h2 | h2 <;> simp [AV.kill, h1, h2]
  | agg l => simp only [AV.kill, map_comm (fun x => qd8 b a x)]
  | fn f l => simp only [AV.kill, map_comm (fun x => qd8 b a x)]
  | tup l => simp only [AV.kill, map_comm (fun x => killM_comm b a x)]
  | _ => rfl
theorem okill_comm (a b : Nat) (o : Option Blk) : (o.map (Blk.kill a)).map (Blk.kill b) = (o.map (Blk.kill b)).map (Blk.kill a) := by
  cases o with
  | none => rfl
  | some x => cases x <;> simp only [Option.map_some, Blk.kill, map_comm (fun x => qd8 a b x)]
theorem killT_at (f : Nat → AV) (i j : Nat) : qgo f i j = (f j).kill i := rfl
theorem stD {R G : Prop} (k : Bx R) (f : Bx R → G := by
    intro k
    first | ((with_reducible refine WRun_nil ?_); (conv => whnf); exact k.u) | ((with_reducible refine WRun_go ?_ ?_); exact rfl; (conv => whnf); exact k.u) | ((with_reducible refine WRun_skip ?_ ?_); exact rfl; exact k.u) | ((with_reducible refine WAg_nil ?_); exact k.u) | ((with_reducible refine WAg_go ?_ ?_); exact rfl; (conv => whnf); exact k.u) | ((with_reducible refine WAg_skip ?_ ?_); exact rfl; exact k.u) | ((with_reducible refine WR_end ?_ ?_); exact rfl; (conv => whnf); exact k.u) | ((with_reducible show WR _ _ _ _ _ _ _ _ _); refine WR_go rfl ?_; exact k.u) | ((with_reducible show WEach _ _); refine WEach_one rfl ?_; (conv => whnf); exact k.u)) : G := f k
theorem stW {R G : Prop} (k : Bx R) (f : Bx R → G := by
    intro k
    first | ((with_reducible refine awp_rg ?_ ?_); exact rfl; (conv => whnf); exact k.u) | ((with_reducible refine awp_dw ?_ ?_); exact rfl; (conv => whnf); simp only [List.nil_append, List.cons_append]; exact k.u) | ((conv => whnf); exact k.u)) : G := f k
end Vg
