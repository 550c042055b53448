/- A region without loads of slices is walked operation by operation. No condition. -/
import Derived.Test.YtahdmongckgjcaaGreatDoorBase
namespace Vg
open Go Go.Proofs
def slLoad (τ : Tys) (o : Oper) : Bool := match o.op with
  | .load T _ => match τ T with
    | some i => match i.desc with
      | .slice _ _ => true
      | _ => false
    | none => true
  | _ => false
theorem markB_no {τ : Tys} {S : AState} {o : Oper} (h : slLoad τ o = false) : markB τ S o = false := by
  cases hm : markB τ S o with
  | false => rfl
  | true =>
    exfalso
    unfold markB at hm
    unfold slLoad at h
    split at hm
    · rename_i T p ho
      rw [ho] at h
      simp only at h
      split at hm
      · split at hm
        · rename_i i hi ht
          rw [ht] at h
          simp only at h
          split at hm
          · rename_i hd _
            rw [hd] at h
            cases h
          · cases hm
        · cases hm
      · cases hm
    · cases hm
theorem qo5 {P : Program} {τ : Tys} {ops : Array Oper} (o : Oper) (rest : List Oper) (S : AState) (K : AState → Prop) : qbo P τ ops [o] S (fun S => qbo P τ ops rest S K) = qbo P τ ops (o :: rest) S K := by
  simp only [qbo]
theorem awpL_eq {P : Program} {τ : Tys} {ops : Array Oper} : ∀ (n : Nat) (l : List Oper), l.length ≤ n → ∀ (S : AState) (K : AState → Prop), l.all (fun o => !slLoad τ o) = true → awpL P τ ops l S K = qbo P τ ops l S K
  | _, [], _, S, K, _ => by simp only [awpL, qbo]
  | _, [o], _, S, K, _ => by simp only [awpL]
  | _, [o, o'], _, S, K, _ => by simp only [awpL]
  | 0, o1 :: o2 :: o3 :: rest, h, S, K, _ => by simp at h
  | n + 1, o1 :: o2 :: o3 :: rest, h, S, K, ha => by
    rw [List.all_cons, Bool.and_eq_true] at ha
    have h1 : markB τ S o1 = false := markB_no (by simpa using ha.1)
    have ih : (fun S => awpL P τ ops (o2 :: o3 :: rest) S K) = fun S => qbo P τ ops (o2 :: o3 :: rest) S K :=
      funext fun S => awpL_eq n (o2 :: o3 :: rest) (by simp at h ⊢; omega) S K ha.2
    rw [awpL, h1, ih, qo5]
theorem qae {P : Program} {τ : Tys} {i : Nat} {ops : Array Oper} {S : AState} {K : AX → AState → Prop} (h : ops.toList.all (fun o => !slLoad τ o) = true) (hA : qbo P τ ops ops.toList S fun S => qip ops.toList S (K .normal)) : awp P τ (.region i ops false) S K := by
  rw [awp, awpL_eq _ _ (Nat.le_refl _) _ _ h]; exact hA
end Vg

namespace Vg
open Go Go.Proofs
structure WR (P : Program) (τ : Tys) (ops : Array Oper) (E : List Ent) (R f done : Nat) (S : AState) (K : AState → Prop) : Prop where
  h : awpR P τ ops E R f done S K
structure WRun (P : Program) (τ : Tys) (ops : Array Oper) (R : Nat) (first : Bool) (done done' : Nat) (l : List Ent) (S : AState) (K : AState → Prop) : Prop where
  h : runP P τ ops R first done done' l S K
structure WAg (P : Program) (τ : Tys) (ops : Array Oper) (R done ar : Nat) (l : List Ent) (S : AState) (K : Prop) : Prop where
  h : qe3 P τ ops R done ar l S K
structure WEach (r : Ent → Prop) (l : List Ent) : Prop where
  h : eachR r l
section
variable {P : Program} {τ : Tys} {ops : Array Oper} {E l : List Ent} {e : Ent} {R f done done' ar : Nat} {first : Bool} {S : AState} {K : AState → Prop} {k : Prop}
theorem WR_eq : WR P τ ops E R f done S K = awpR P τ ops E R f done S K := propext ⟨fun h => h.h, fun h => ⟨h⟩⟩
theorem qmk : WRun P τ ops R first done done' l S K = runP P τ ops R first done done' l S K := propext ⟨fun h => h.h, fun h => ⟨h⟩⟩
theorem WAg_eq : WAg P τ ops R done ar l S k = qe3 P τ ops R done ar l S k := propext ⟨fun h => h.h, fun h => ⟨h⟩⟩
theorem qap (h : K S) : WRun P τ ops R first done done' [] S K := ⟨by rw [runP]; exact h⟩
theorem qau (hc : (e.p && enB R done' e.a && (first || !enB R done e.a)) = true) (h : qdc P τ ops [e.o] S fun S => WRun P τ ops R first done done' l S K) : WRun P τ ops R first done done' (e :: l) S K := by
  refine ⟨?_⟩
  rw [runP, hc]
  simpa only [qmk] using h
theorem qak (hc : (e.p && enB R done' e.a && (first || !enB R done e.a)) = false) (h : WRun P τ ops R first done done' l S K) : WRun P τ ops R first done done' (e :: l) S K := by
  refine ⟨?_⟩
  rw [runP, hc]
  exact h.h
theorem qav (h : k) : WAg P τ ops R done ar [] S k := ⟨by rw [qe3]; exact h⟩
theorem qa5 (hc : (e.p && enB R done e.a && !Nat.testBit ar e.i) = true) (h : again P τ ops e.o S (WAg P τ ops R done ar l S k)) : WAg P τ ops R done ar (e :: l) S k := by
  refine ⟨?_⟩
  rw [qe3, hc]
  simpa only [WAg_eq] using h
theorem qaq (hc : (e.p && enB R done e.a && !Nat.testBit ar e.i) = false) (h : WAg P τ ops R done ar l S k) : WAg P τ ops R done ar (e :: l) S k := by
  refine ⟨?_⟩
  rw [qe3, hc]
  exact h.h
theorem qa4 (hb : Nat.beq done R = true) (h : K S) : WR P τ ops E R f done S K := by
  refine ⟨?_⟩
  cases f <;> (rw [awpR, hb]; exact h)
theorem qb7 (hb : Nat.beq done R = false) (h : WEach (fun r => qbo P τ ops [r.o] S fun S => WAg P τ ops R done r.a E S
    (WRun P τ ops R false done (Nat.lor done (2 ^ r.i)) E S fun S => WR P τ ops E R f (Nat.lor done (2 ^ r.i)) S K)) (qkq R done E)) : WR P τ ops E R (f + 1) done S K := by
  refine ⟨?_⟩
  rw [awpR, hb]
  have h' := h.h
  simp only [WAg_eq, qmk, WR_eq] at h'
  simpa only [qk0] using h'
theorem qal {r : Ent → Prop} {l : List Ent} {e : Ent} (hl : l = [e]) (h : r e) : WEach r l := ⟨by rw [hl, eachR]; exact h⟩
theorem qao {r : Ent → Prop} {l l' : List Ent} {e e' : Ent} (hl : l = e :: e' :: l') (h : r e) (h' : WEach r (e' :: l')) : WEach r l := ⟨by rw [hl, eachR]; exact ⟨h, h'.h⟩; intro x; cases x⟩
theorem qa9 {i : Nat} {K : AX → AState → Prop} (hd : (qfn τ ops.toList && qno ops (preLen ops.toList)) = false)
    (h : match qez ops.toList 0 && qf0 ops.toList with
      | true => ancK ops.toList 0 [] [] fun L => qnl τ ops L L [] fun E => qf3 (qch E) fun R => WRun P τ ops R true 0 0 E S fun S => WR P τ ops E R E.length 0 S (K .normal)
      | false => False) : awp P τ (.region i ops true) S K := by
  rw [awp, hd]
  show qfk P τ ops S (K .normal)
  unfold qfk
  simp only [qmk, WR_eq] at h
  exact h
end
/-! ### blocks are forgotten in any order -/
theorem qeq (a b : Nat) (v : AV) : (v.killC a).killC b = (v.killC b).killC a := by
  have hj : ∀ j : Nat, Nat.beq j a = true ∨ Nat.beq j a = false := fun j => by cases Nat.beq j a <;> simp
  have hk : ∀ j : Nat, Nat.beq j b = true ∨ Nat.beq j b = false := fun j => by cases Nat.beq j b <;> simp
  cases v with
  | row j => rcases hj j with h1 | h1 <;> rcases hk j with h2 | h2 <;> simp [AV.killC, h1, h2]
  | mp j => rcases hj j with h1 | h1 <;> rcases hk j with h2 | h2 <;> simp [AV.killC, h1, h2]
  | ptr j o => rcases hj j with h1 | h1 <;> rcases hk j with h2 | h2 <;> simp [AV.killC, h1, h2]
  | rptr j k o sz => rcases hj j with h1 | h1 <;> rcases hk j with h2 | h2 <;> simp [AV.killC, h1, h2]
  | _ => rfl
theorem map_comm {α : Type} {f g : α → α} (h : ∀ x, f (g x) = g (f x)) (l : List α) : (l.map g).map f = (l.map f).map g := by
  rw [List.map_map, List.map_map]
  exact List.map_congr_left fun x _ => h x
theorem killM_comm (a b : Nat) (v : AV) : (v.killM a).killM b = (v.killM b).killM a := by
  have hj : ∀ j : Nat, Nat.beq j a = true ∨ Nat.beq j a = false := fun j => by cases Nat.beq j a <;> simp
  have hk : ∀ j : Nat, Nat.beq j b = true ∨ Nat.beq j b = false := fun j => by cases Nat.beq j b <;> simp
  cases v with
  | row j => rcases hj j with h1 | h1 <;> rcases hk j with h2 | h2 <;> simp [AV.killM, h1, h2]
  | mp j => rcases hj j with h1 | h1 <;> rcases hk j with h2 | h2 <;> simp [AV.killM, h1, h2]
  | ptr j o => rcases hj j with h1 | h1 <;> rcases hk j with h2 | h2 <;> simp [AV.killM, h1, h2]
  | rptr j k o sz => rcases hj j with h1 | h1 <;> rcases hk j with h2 | h2 <;> simp [AV.killM, h1, h2]
  | agg l => simp only [AV.killM, map_comm (fun x => qeq b a x)]
  | fn f l => simp only [AV.killM, map_comm (fun x => qeq b a x)]
  | _ => rfl
theorem kill_comm (a b : Nat) (v : AV) : (v.kill a).kill b = (v.kill b).kill a := by
  have hj : ∀ j : Nat, Nat.beq j a = true ∨ Nat.beq j a = false := fun j => by cases Nat.beq j a <;> simp
  have hk : ∀ j : Nat, Nat.beq j b = true ∨ Nat.beq j b = false := fun j => by cases Nat.beq j b <;> simp
  cases v with
  | row j => rcases hj j with h1 | h1 <;> rcases hk j with h2 | h2 <;> simp [AV.kill, h1, h2]
  | mp j => rcases hj j with h1 | h1 <;> rcases hk j with h2 | h2 <;> simp [AV.kill, h1, h2]
  | ptr j o => rcases hj j with h1 | h1 <;> rcases hk j with h2 | h2 <;> simp [AV.kill, h1, h2]
  | rptr j k o sz => rcases hj j with h1 | h1 <;> rcases hk j with h2 | h2 <;> simp [AV.kill, h1, h2]
  | agg l => simp only [AV.kill, map_comm (fun x => qeq b a x)]
  | fn f l => simp only [AV.kill, map_comm (fun x => qeq b a x)]
  | tup l => simp only [AV.kill, map_comm (fun x => killM_comm b a x)]
  | _ => rfl
theorem okill_comm (a b : Nat) (o : Option Blk) : (o.map (Blk.kill a)).map (Blk.kill b) = (o.map (Blk.kill b)).map (Blk.kill a) := by
  cases o with
  | none => rfl
  | some x => cases x <;> simp only [Option.map_some, Blk.kill, map_comm (fun x => qeq a b x)]
theorem killT_at (f : Nat → AV) (i j : Nat) : qg0 f i j = (f j).kill i := rfl
end Vg
