/- A region without loads of slices is walked operation by operation. No condition. -/
import Derived.Test.YtfhkodimclmcdaaGreatDoorBase
namespace Vg
open Go Go.Proofs
def jQ (τ : Tys) (o : Oper) : Bool := match o.op with
  | .load T _=>match τ T with
    | some i=>match i.desc with
      | .slice _ _=>true
      | _=>false
    | none=>true
  | _=>false
theorem qk4 {τ : Tys} {S : AState} {o : Oper} (h : jQ τ o = false) : iL τ S o = false := by
  cases hm : iL τ S o with
  | false=>rfl
  | true =>
    exfalso
    unfold iL at hm
    unfold jQ at h
    split at hm
    . rename_i T p ho
      rw [ho] at h
      simp only at h
      split at hm
      . split at hm
        . rename_i i hi ht
          rw [ht] at h
          simp only at h
          split at hm
          . rename_i hd _
            rw [hd] at h
            cases h
          . cases hm
        . cases hm
      . cases hm
    . cases hm
theorem qoe {P : Program} {τ : Tys} {ops : Array Oper} (o : Oper) (rest : List Oper) (S : AState) (K : AState -> Prop) : w8 P τ ops [o] S (fun S=>w8 P τ ops rest S K) = w8 P τ ops (o :: rest) S K := by
  simp only [w8]
theorem qg3 {P : Program} {τ : Tys} {ops : Array Oper} : ∀ (n : Nat) (l : List Oper),l.length <= n -> ∀ (S : AState) (K : AState -> Prop),l.all (fun o => !jQ τ o) = true -> yF P τ ops l S K = w8 P τ ops l S K
  | _,[],_,S,K,_=>by simp only [yF,w8]
  | _,[o],_,S,K,_=>by simp only [yF]
  | _,[o,o'],_,S,K,_=>by simp only [yF]
  | 0,o1 :: o2 :: o3 :: rest,h,S,K,_=>by simp at h
  | n + 1,o1 :: o2 :: o3 :: rest,h,S,K,ha=>by
    rw [List.all_cons,Bool.and_eq_true] at ha
    have h1 : iL τ S o1 = false := qk4 (by simpa using ha.1)
    have ih : (fun S=>yF P τ ops (o2 :: o3 :: rest) S K) = fun S=>w8 P τ ops (o2 :: o3 :: rest) S K :=
      funext fun S=>qg3 n (o2 :: o3 :: rest) (by simp at h ⊢;omega) S K ha.2
    rw [yF,h1,ih,qoe]
theorem rS {P : Program} {τ : Tys} {i : Nat} {ops : Array Oper} {S : AState} {K : AX -> AState -> Prop} (h : ops.toList.all (fun o => !jQ τ o) = true) (hA : w8 P τ ops ops.toList S fun S=>dS ops.toList S (K .normal)) : yA P τ (.region i ops false) S K := by
  rw [yA,qg3 _ _ (Nat.le_refl _) _ _ h];exact hA
theorem k7 {R G : Prop} (k : Bx R) (f : Bx R -> G := by
    intro k
    first|((with_reducible refine rS ?_ ?_);exact rfl;(conv=>whnf);exact k.u)|((conv=>whnf);exact k.u)) : G := f k
structure WR (P : Program) (τ : Tys) (ops : Array Oper) (E : List Ent) (R f done : Nat) (S : AState) (K : AState -> Prop) : Prop where
  h : awpR P τ ops E R f done S K
structure WRun (P : Program) (τ : Tys) (ops : Array Oper) (R : Nat) (first : Bool) (done done' : Nat) (l : List Ent) (S : AState) (K : AState -> Prop) : Prop where
  h : eD P τ ops R first done done' l S K
structure WAg (P : Program) (τ : Tys) (ops : Array Oper) (R done ar : Nat) (l : List Ent) (S : AState) (K : Prop) : Prop where
  h : sE P τ ops R done ar l S K
structure WEach (r : Ent -> Prop) (l : List Ent) : Prop where
  h : iM r l
section
variable {P : Program} {τ : Tys} {ops : Array Oper} {E l : List Ent} {e : Ent} {R f done done' ar : Nat} {first : Bool} {S : AState} {K : AState -> Prop} {k : Prop}
theorem jT : WR P τ ops E R f done S K = awpR P τ ops E R f done S K := propext ⟨fun h=>h.h,fun h=>⟨h⟩⟩
theorem lP : WRun P τ ops R first done done' l S K = eD P τ ops R first done done' l S K := propext ⟨fun h=>h.h,fun h=>⟨h⟩⟩
theorem qht : WAg P τ ops R done ar l S k = sE P τ ops R done ar l S k := propext ⟨fun h=>h.h,fun h=>⟨h⟩⟩
theorem qo9 (h : K S) : WRun P τ ops R first done done' [] S K := ⟨by rw [eD];exact h⟩
theorem WRun_go (hc : (e.p && t8 R done' e.a && (first || !t8 R done e.a)) = true) (h : iB P τ ops [e.o] S fun S=>WRun P τ ops R first done done' l S K) : WRun P τ ops R first done done' (e :: l) S K := by
  refine ⟨?_⟩
  rw [eD,hc]
  simpa only [lP] using h
theorem qo8 (hc : (e.p && t8 R done' e.a && (first || !t8 R done e.a)) = false) (h : WRun P τ ops R first done done' l S K) : WRun P τ ops R first done done' (e :: l) S K := by
  refine ⟨?_⟩
  rw [eD,hc]
  exact h.h
theorem WAg_nil (h : k) : WAg P τ ops R done ar [] S k := ⟨by rw [sE];exact h⟩
theorem WAg_go (hc : (e.p && t8 R done e.a && !Nat.testBit ar e.i) = true) (h : dT P τ ops e.o S (WAg P τ ops R done ar l S k)) : WAg P τ ops R done ar (e :: l) S k := by
  refine ⟨?_⟩
  rw [sE,hc]
  simpa only [qht] using h
theorem qpb (hc : (e.p && t8 R done e.a && !Nat.testBit ar e.i) = false) (h : WAg P τ ops R done ar l S k) : WAg P τ ops R done ar (e :: l) S k := by
  refine ⟨?_⟩
  rw [sE,hc]
  exact h.h
theorem WR_end (hb : Nat.beq done R = true) (h : K S) : WR P τ ops E R f done S K := by
  refine ⟨?_⟩
  cases f <;> (rw [awpR,hb];exact h)
theorem WR_go (hb : Nat.beq done R = false) (h : WEach (fun r=>w8 P τ ops [r.o] S fun S=>WAg P τ ops R done r.a E S
    (WRun P τ ops R false done (Nat.lor done (2 ^ r.i)) E S fun S=>WR P τ ops E R f (Nat.lor done (2 ^ r.i)) S K)) (wK R done E)) : WR P τ ops E R (f + 1) done S K := by
  refine ⟨?_⟩
  rw [awpR,hb]
  have h' := h.h
  simp only [qht,lP,jT] at h'
  simpa only [qe4] using h'
theorem qpa {r : Ent -> Prop} {l : List Ent} {e : Ent} (hl : l = [e]) (h : r e) : WEach r l := ⟨by rw [hl,iM];exact h⟩
theorem rA {r : Ent -> Prop} {l l' : List Ent} {e e' : Ent} (hl : l = e :: e' :: l') (h : r e) (h' : WEach r (e' :: l')) : WEach r l := ⟨by rw [hl,iM];exact ⟨h,h'.h⟩;intro x;cases x⟩
theorem iY {i : Nat} {K : AX -> AState -> Prop} (hd : (dR τ ops.toList && cP ops (preLen ops.toList)) = false)
    (h : match tG ops.toList 0 && kF ops.toList with
      | true=>eK ops.toList 0 [] [] fun L=>jH τ ops L L [] fun E=>sF (f7 E) fun R=>WRun P τ ops R true 0 0 E S fun S=>WR P τ ops E R E.length 0 S (K .normal)
      | false=>False) : yA P τ (.region i ops true) S K := by
  rw [yA,hd]
  show uG P τ ops S (K .normal)
  unfold uG
  simp only [lP,jT] at h
  exact h
end
/-! ### blocks are forgotten in any order -/
theorem fO (a b : Nat) (v : AV) : (v.killC a).killC b = (v.killC b).killC a := by
  have hj : ∀ j : Nat,Nat.beq j a = true \/ Nat.beq j a = false := fun j=>by cases Nat.beq j a <;> simp
  have hk : ∀ j : Nat,Nat.beq j b = true \/ Nat.beq j b = false := fun j=>by cases Nat.beq j b <;> simp
  cases v with
  | row j=>rcases hj j with h1|h1 <;> rcases hk j with h2|h2 <;> simp [AV.killC,h1,h2]
  | mp j=>rcases hj j with h1|h1 <;> rcases hk j with h2|h2 <;> simp [AV.killC,h1,h2]
  | ptr j o=>rcases hj j with h1|h1 <;> rcases hk j with h2|h2 <;> simp [AV.killC,h1,h2]
  | rptr j k o sz=>rcases hj j with h1|h1 <;> rcases hk j with h2|h2 <;> simp [AV.killC,h1,h2]
  | _=>rfl
theorem map_comm {α : Type} {f g : α -> α} (h : ∀ x,f (g x) = g (f x)) (l : List α) : (l.map g).map f = (l.map f).map g := by
  rw [List.map_map,List.map_map]
  exact List.map_congr_left fun x _=>h x
theorem qlh (a b : Nat) (v : AV) : (v.killM a).killM b = (v.killM b).killM a := by
  have hj : ∀ j : Nat,Nat.beq j a = true \/ Nat.beq j a = false := fun j=>by cases Nat.beq j a <;> simp
  have hk : ∀ j : Nat,Nat.beq j b = true \/ Nat.beq j b = false := fun j=>by cases Nat.beq j b <;> simp
  cases v with
  | row j=>rcases hj j with h1|h1 <;> rcases hk j with h2|h2 <;> simp [AV.killM,h1,h2]
  | mp j=>rcases hj j with h1|h1 <;> rcases hk j with h2|h2 <;> simp [AV.killM,h1,h2]
  | ptr j o=>rcases hj j with h1|h1 <;> rcases hk j with h2|h2 <;> simp [AV.killM,h1,h2]
  | rptr j k o sz=>rcases hj j with h1|h1 <;> rcases hk j with h2|h2 <;> simp [AV.killM,h1,h2]
  | agg l=>simp only [AV.killM,map_comm (fun x=>fO b a x)]
  | fn f l=>simp only [AV.killM,map_comm (fun x=>fO b a x)]
  | _=>rfl
theorem kill_comm (a b : Nat) (v : AV) : (v.kill a).kill b = (v.kill b).kill a := by
  have hj : ∀ j : Nat,Nat.beq j a = true \/ Nat.beq j a = false := fun j=>by cases Nat.beq j a <;> simp
  have hk : ∀ j : Nat,Nat.beq j b = true \/ Nat.beq j b = false := fun j=>by cases Nat.beq j b <;> simp
  cases v with
  | row j=>rcases hj j with h1|h1 <;> rcases hk j with h2|h2 <;> simp [AV.kill,h1,h2]
  | mp j=>rcases hj j with h1|h1 <;> rcases hk j with h2|h2 <;> simp [AV.kill,h1,h2]
  | ptr j o=>rcases hj j with h1|h1 <;> rcases hk j with h2|h2 <;> simp [AV.kill,h1,h2]
  | rptr j k o sz=>rcases hj j with h1|h1 <;> rcases hk j with h2|h2 <;> simp [AV.kill,h1,h2]
  | agg l=>simp only [AV.kill,map_comm (fun x=>fO b a x)]
  | fn f l=>simp only [AV.kill,map_comm (fun x=>fO b a x)]
  | tup l=>simp only [AV.kill,map_comm (fun x=>qlh b a x)]
  | _=>rfl
theorem okill_comm (a b : Nat) (o : Option Blk) : (o.map (Blk.kill a)).map (Blk.kill b) = (o.map (Blk.kill b)).map (Blk.kill a) := by
  cases o with
  | none=>rfl
  | some x=>cases x <;> simp only [Option.map_some,Blk.kill,map_comm (fun x=>fO a b x)]
theorem killT_at (f : Nat -> AV) (i j : Nat) : wA f i j = (f j).kill i := rfl
theorem y7 {R G : Prop} (k : Bx R) (f : Bx R -> G := by
    intro k
    first|((with_reducible refine qo9 ?_);(conv=>whnf);exact k.u)|((with_reducible refine WRun_go ?_ ?_);exact rfl;(conv=>whnf);exact k.u)|((with_reducible refine qo8 ?_ ?_);exact rfl;exact k.u)|((with_reducible refine WAg_nil ?_);exact k.u)|((with_reducible refine WAg_go ?_ ?_);exact rfl;(conv=>whnf);exact k.u)|((with_reducible refine qpb ?_ ?_);exact rfl;exact k.u)|((with_reducible refine WR_end ?_ ?_);exact rfl;(conv=>whnf);exact k.u)|((with_reducible show WR _ _ _ _ _ _ _ _ _);refine WR_go rfl ?_;exact k.u)|((with_reducible show WEach _ _);refine qpa rfl ?_;(conv=>whnf);exact k.u)) : G := f k
theorem r3 {R G : Prop} (k : Bx R) (f : Bx R -> G := by
    intro k
    first|((with_reducible refine rS ?_ ?_);exact rfl;(conv=>whnf);exact k.u)|((with_reducible refine iY ?_ ?_);exact rfl;(conv=>whnf);simp only [List.nil_append,List.cons_append];exact k.u)|((conv=>whnf);exact k.u)) : G := f k
def qgp (gs : List Nat) : List Oper -> Bool
  | []=>false
  | o :: l=>(match o.op with
    | .call { callee := .value (.func g),args := _,argTypes := _ }=>gs.any (Nat.beq g)
    | _=>false) || qgp gs l
theorem yS {P : Program} {τ : Tys} {ops : Array Oper} {S : AState} {K : AState -> Prop} {A : Prop} (gs : List Nat) (_ : qgp gs (ops.toList.take (preLen ops.toList)) = true)
    (h : match tG ops.toList 0 && kF ops.toList with
      | true=>eK ops.toList 0 [] [] fun L=>jH τ ops L L [] fun E=>sF (f7 E) fun R=>WRun P τ ops R true 0 0 E S fun S=>WR P τ ops E R E.length 0 S K
      | false=>False) : Alt A (uG P τ ops S K) := by
  refine .r ?_
  unfold uG
  simp only [lP,jT] at h
  exact h
end Vg
