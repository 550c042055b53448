/- Paths under way: what holds of all their terms, and of the conditions behind a step. No condition. -/
import Derived.Test.YtfhkodimclmcdaaGreatDoorPathQ
import Derived.Test.YtfhkodimclmcdaaGreatDoorEvQ
namespace Vg
open Go Go.Proofs
structure TQ (p : V.Prog) (Q : Int -> V.Term -> Prop) : Prop where
  c : ∀ n,wordP p.w n = true -> Q p.w (cT p.w n)
  v : ∀ k,0 <= k -> k < p.inn -> Q p.w (varT p.w k)
  m : ∀ op w n ks,(s1 op w n ks).2 = true -> (∀ t,t ∈ ks -> ∃ w',Q w' t) -> Q w (s1 op w n ks).1
structure AllQ (p : V.Prog) (Q : Int -> V.Term -> Prop) (s : V.Path) : Prop where
  r : ∀ t,t ∈ s.regs -> Q p.w t
  m : ∀ t,t ∈ s.mem -> Q p.w t
  o : ∀ t,t ∈ s.out -> Q p.w t
  c : ∀ t,t ∈ s.cond -> Q 1 t
section
variable {p : V.Prog} {s : V.Path} {i : V.Ins} {Q : Int -> V.Term -> Prop}
theorem gD {l : List V.Term} {P : V.Term -> Prop} {k : Nat} (h : ∀ t,t ∈ l -> P t) (hk : k < l.length) : P (kAt l k) := by
  have e : kAt l k = l[k] := by rw [kAt,List.getD_eq_getElem?_getD,List.getElem?_eq_getElem hk];rfl
  rw [e]
  exact h _ (List.getElem_mem hk)
theorem iJ {l : List V.Term} {P : V.Term -> Prop} {k : Nat} {x : V.Term} (h : ∀ t,t ∈ l -> P t) (hx : P x) : ∀ t,t ∈ l.set k x -> P t := by
  intro t ht
  rcases List.mem_or_eq_of_mem_set ht with q|q
  . exact h t q
  . rw [q];exact hx
theorem q_1 {P : V.Term -> Prop} {a : V.Term} (h : P a) : ∀ t,t ∈ [a] -> P t := by
  intro t ht;rw [List.mem_singleton] at ht;rw [ht];exact h
theorem q_2 {P : V.Term -> Prop} {a b : V.Term} (h : P a) (h2 : P b) : ∀ t,t ∈ [a,b] -> P t := by
  intro t ht
  simp only [List.mem_cons,List.not_mem_nil,or_false] at ht
  rcases ht with rfl|rfl
  . exact h
  . exact h2
theorem q_3 {P : V.Term -> Prop} {a b c : V.Term} (h : P a) (h2 : P b) (h3 : P c) : ∀ t,t ∈ [a,b,c] -> P t := by
  intro t ht
  simp only [List.mem_cons,List.not_mem_nil,or_false] at ht
  rcases ht with rfl|rfl|rfl
  . exact h
  . exact h2
  . exact h3
theorem AllQ.rg (h : AllQ p Q s) (hP : PI p s) {k : Int} (h0 : 0 <= k /\ k < 4) : Q p.w (rgT s k) := gD (k := k.toNat) h.r (by have := hP.rl;omega)
theorem qgj (hT : TQ p Q) {k : Int} {x a b : V.Term} (hk : wordP p.w k = true) (hx : Q p.w x) (ha : Q p.w a) (hb : Q p.w b) (h : (p7 p k x a b).2 = true) : Q p.w (p7 p k x a b).1 := by
  unfold p7 at h ⊢
  by_cases c : (s1 14 1 0 [cT p.w k,x]).2 = true
  . rw [if_pos c] at h ⊢
    exact hT.m _ _ _ _ h (q_3 ⟨1,hT.m _ _ _ _ c (q_2 ⟨_,hT.c k hk⟩ ⟨_,hx⟩)⟩ ⟨_,ha⟩ ⟨_,hb⟩)
  . rw [if_neg c] at h;cases h
theorem iR (hp : i4 p = true) {k : Int} (h0 : 0 <= k) (h1 : k < p.mem) : wordP p.w k = true := by
  have h := a7 hp
  have q := u4 h.2.2.1
  exact lC q.1 h0 omG
theorem qc6 (hT : TQ p Q) (hp : i4 p = true) {mm : List V.Term} {x : V.Term} (hm : ∀ t,t ∈ mm -> Q p.w t) (hl : (mm.length : Int) = p.mem) (hx : Q p.w x) : ∀ j : Nat,(j : Int) <= p.mem - 1 -> (r6 p mm x j).2 = true -> Q p.w (r6 p mm x j).1
  | 0,hj,_=>gD hm (by have := (a7 hp).1;omega)
  | j + 1,hj,h=>by
    have h1 := (a7 hp).1
    rw [r6] at h ⊢
    by_cases c : (r6 p mm x j).2 = true
    . rw [if_pos c] at h ⊢
      exact qgj hT (iR hp omG omG) hx (gD hm omG) (qc6 hT hp hm hl hx j omG c) h
    . rw [if_neg c] at h;cases h
theorem stor_q (hT : TQ p Q) (hp : i4 p = true) {mm : List V.Term} {x t : V.Term} (hm : ∀ t,t ∈ mm -> Q p.w t) (hl : (mm.length : Int) = p.mem) (hx : Q p.w x) (ht : Q p.w t) (h : jA p mm x t p.mem.toNat = true) : ∀ y,y ∈ cB p mm x t p.mem.toNat -> Q p.w y := by
  intro y hy
  obtain ⟨j,hj,rfl⟩ := List.mem_map.1 hy
  have hj' := List.mem_range.1 hj
  exact qgj hT (iR hp omG omG) hx ht (gD hm omG) (cQ _ h j hj')
theorem oper_q (hT : TQ p Q) {op : Int} {a b : V.Term} (ha : Q p.w a) (hb : Q p.w b) (h : (w9 p op a b).2 = true) : Q p.w (w9 p op a b).1 := by
  unfold w9 at h ⊢
  by_cases c : (s1 op (e8 op p.w) 0 [a,b]).2 = false \/ op < 14
  . rw [if_pos c] at h ⊢
    have e : e8 op p.w = p.w := by
      rcases c with c|c
      . rw [c] at h;cases h
      . unfold e8;rw [if_neg omG]
    rw [e] at h ⊢
    exact hT.m _ _ _ _ h (q_2 ⟨_,ha⟩ ⟨_,hb⟩)
  . rw [if_neg c] at h ⊢
    have c' : (s1 op (e8 op p.w) 0 [a,b]).2 = true := by
      cases e : (s1 op (e8 op p.w) 0 [a,b]).2 with
      | true=>rfl
      | false=>exact absurd (.inl e) c
    exact hT.m _ _ _ _ h (q_1 ⟨_,hT.m _ _ _ _ c' (q_2 ⟨_,ha⟩ ⟨_,hb⟩)⟩)
theorem AllQ.follow (hT : TQ p Q) (h : AllQ p Q s) (hP : PI p s) (hi : j5 i p.w p.code.length = true) (hk : g5 p s i = 0) (ha : AddrOk p s i) (hok : (i6 p s i).2 = true) : AllQ p Q (i6 p s i).1 := by
  have hm := a7 hP.hp
  have hia := fun q=>ins_a (op := i.op) (a := i.a) (b := i.b) (d := i.c) hi q
  have hib := fun q=>i8 (op := i.op) (a := i.a) (b := i.b) (d := i.c) hi q
  unfold i6 at hok ⊢
  by_cases c1 : i.op = 1
  . rw [if_pos c1]
    exact ⟨iJ h.r (hT.c _ (rW hi c1)),h.m,h.o,h.c⟩
  rw [if_neg c1] at hok ⊢
  by_cases c2 : i.op = 2
  . rw [if_pos c2]
    exact ⟨iJ h.r (h.rg hP (hib omG)),h.m,h.o,h.c⟩
  rw [if_neg c2] at hok ⊢
  by_cases c3 : i.op = 3
  . rw [if_pos c3] at hok ⊢
    exact ⟨iJ h.r (oper_q hT (h.rg hP (hia omG)) (h.rg hP (hib omG)) hok),h.m,h.o,h.c⟩
  rw [if_neg c3] at hok ⊢
  by_cases c4 : i.op = 4
  . rw [if_pos c4] at hok ⊢
    exact ⟨iJ h.r (hT.m _ _ _ _ hok (q_1 ⟨_,h.rg hP (hia omG)⟩)),h.m,h.o,h.c⟩
  rw [if_neg c4] at hok ⊢
  by_cases c5 : i.op = 5
  . rw [if_pos c5]
    have : s.inn < p.inn := by
      unfold g5 at hk
      by_cases q : p.inn <= s.inn
      . rw [if_pos ⟨c5,q⟩] at hk;cases hk
      . omega
    exact ⟨iJ h.r (hT.v _ hP.i0 this),h.m,h.o,h.c⟩
  rw [if_neg c5] at hok ⊢
  by_cases c6 : i.op = 6
  . rw [if_pos c6]
    refine ⟨h.r,h.m,fun t ht=>?_,h.c⟩
    rcases List.mem_append.1 ht with q|q
    . exact h.o t q
    . exact q_1 (h.rg hP (hia omG)) t q
  rw [if_neg c6] at hok ⊢
  by_cases c7 : i.op = 7
  . rw [if_pos c7] at hok ⊢
    refine ⟨iJ h.r ?_,h.m,h.o,h.c⟩
    simp only at hok
    unfold rB at hok ⊢
    by_cases q : (rgT s i.b).op = 0
    . rw [if_pos q]
      have := ha.l c7 q
      have hl := hP.ml
      exact gD (k := (rgT s i.b).n.toNat) h.m omG
    . rw [if_neg q] at hok ⊢
      exact qc6 hT hP.hp h.m hP.ml (h.rg hP (hib omG)) _ omG hok
  rw [if_neg c7] at hok ⊢
  by_cases c8 : i.op = 8
  . rw [if_pos c8] at hok ⊢
    refine ⟨h.r, ?_,h.o,h.c⟩
    simp only at hok
    unfold bB at hok ⊢
    by_cases q : (rgT s i.a).op = 0
    . rw [if_pos q]
      exact iJ h.m (h.rg hP (hib omG))
    . rw [if_neg q] at hok ⊢
      by_cases z : jA p s.mem (rgT s i.a) (rgT s i.b) p.mem.toNat = true
      . rw [if_pos z]
        exact stor_q hT hP.hp h.m hP.ml (h.rg hP (hia omG)) (h.rg hP (hib omG)) z
      . rw [if_neg z] at hok;cases hok
  rw [if_neg c8] at hok ⊢
  by_cases c9 : i.op = 9
  . rw [if_pos c9];exact ⟨h.r,h.m,h.o,h.c⟩
  rw [if_neg c9] at hok ⊢
  by_cases c11 : i.op = 11
  . rw [if_pos c11];exact ⟨h.r,h.m,h.o,h.c⟩
  rw [if_neg c11] at hok ⊢
  by_cases c12 : i.op = 12
  . rw [if_pos c12];exact ⟨h.r,h.m,h.o,h.c⟩
  rw [if_neg c12] at hok ⊢
  by_cases c14 : i.op = 14
  . rw [if_pos c14];exact ⟨h.r,h.m,h.o,h.c⟩
  rw [if_neg c14];exact ⟨h.r,h.m,h.o,h.c⟩
theorem named_q (h : AllQ p Q s) : AllQ p Q (p9 s i) := by
  unfold p9
  split
  . exact ⟨h.r,h.m,h.o,h.c⟩
  split
  . exact ⟨h.r,h.m,h.o,h.c⟩
  split
  . exact ⟨h.r,h.m,h.o,h.c⟩
  . exact ⟨h.r,h.m,h.o,h.c⟩
theorem ask_q (hT : TQ p Q) (h : AllQ p Q s) (hP : PI p s) (hi : j5 i p.w p.code.length = true) (ha : r5 i = true) (hk : (f3 p s i).2 = true) : Q 1 (f3 p s i).1 := by
  have hia := fun q=>ins_a (op := i.op) (a := i.a) (b := i.b) (d := i.c) hi q
  have hib := fun q=>i8 (op := i.op) (a := i.a) (b := i.b) (d := i.c) hi q
  have hw := zero_word (progP_w hP.hp)
  have hmw := (a7 hP.hp).2.2.1
  have hz : ∀ {x : V.Term},Q p.w x -> (wE p x).2 = true -> Q 1 (wE p x).1 := fun hx hz=>hT.m _ _ _ _ hz (q_2 ⟨_,hT.c 0 hw⟩ ⟨_,hx⟩)
  have hadr : ∀ {x : V.Term},Q p.w x -> (s9 p x).2 = true -> Q 1 (s9 p x).1 := by
    intro x hx hz
    unfold s9 at hz ⊢
    by_cases c : (gC p x).2 = true
    . rw [if_pos c] at hz ⊢
      exact hT.m _ _ _ _ hz (q_1 ⟨1,hT.m _ _ _ _ c (q_2 ⟨_,hx⟩ ⟨_,hT.c p.mem hmw⟩)⟩)
    . rw [if_neg c] at hz;cases hz
  unfold r5 at ha
  have ha := of_decide_eq_true ha
  unfold f3 at hk ⊢
  by_cases c1 : i.op = 10 \/ i.op = 13
  . rw [if_pos c1] at hk ⊢;exact hz (h.rg hP (hia omG)) hk
  rw [if_neg c1] at hk ⊢
  by_cases c2 : i.op = 3
  . rw [if_pos c2] at hk ⊢
    rw [if_pos omG] at hk ⊢
    exact hz (h.rg hP (hib omG)) hk
  rw [if_neg c2] at hk ⊢
  by_cases c3 : i.op = 7
  . rw [if_pos c3] at hk ⊢;exact hadr (h.rg hP (hib omG)) hk
  rw [if_neg c3] at hk ⊢
  rw [if_pos omG] at hk ⊢
  exact hadr (h.rg hP (hia omG)) hk
theorem q_app {l : List V.Term} {P : V.Term -> Prop} {x : V.Term} (h : ∀ t,t ∈ l -> P t) (hx : P x) : ∀ t,t ∈ l ++ [x] -> P t := by
  intro t ht
  rcases List.mem_append.1 ht with q|q
  . exact h t q
  . exact q_1 hx t q
theorem AllQ.divide (hT : TQ p Q) (h : AllQ p Q s) (hP : PI p s) (hi : j5 i p.w p.code.length = true) (hk : g5 p s i = 0) : ∀ t ∈ g9 p s i,AllQ p Q t := by
  intro t ht
  unfold g9 at ht
  by_cases c1 : (f3 p s i).2 = false
  . rw [if_pos c1,List.mem_singleton] at ht;subst ht;exact ⟨h.r,h.m,h.o,h.c⟩
  rw [if_neg c1] at ht
  have c1' : (f3 p s i).2 = true := by simpa using c1
  by_cases c2 : r5 i = true /\ (f3 p s i).1.op = 0 /\ (f3 p s i).1.n = 1
  . rw [if_pos c2,List.mem_singleton] at ht;subst ht;exact named_q h
  rw [if_neg c2] at ht
  by_cases c3 : (i6 p s i).2 = false
  . rw [if_pos c3,List.mem_singleton] at ht;subst ht;exact ⟨h.r,h.m,h.o,h.c⟩
  rw [if_neg c3] at ht
  have hf := h.follow hT hP hi hk (uS c1' (fun a q=>c2 ⟨a,q⟩)) (by simpa using c3)
  by_cases c4 : r5 i = false \/ (f3 p s i).1.op = 0
  . rw [if_pos c4,List.mem_singleton] at ht;subst ht;exact hf
  rw [if_neg c4] at ht
  by_cases c5 : (s1 1 1 0 [(f3 p s i).1]).2 = false \/ 60 <= s.cond.length \/ 60 <= s.turns.length
  . rw [if_pos c5,List.mem_singleton] at ht;subst ht;exact ⟨h.r,h.m,h.o,h.c⟩
  rw [if_neg c5] at ht
  have ha : r5 i = true := by
    cases e : r5 i with
    | true=>rfl
    | false=>exact absurd (.inl e) c4
  have hn : (s1 1 1 0 [(f3 p s i).1]).2 = true := by
    cases e : (s1 1 1 0 [(f3 p s i).1]).2 with
    | true=>rfl
    | false=>exact absurd (.inl e) c5
  have hq := ask_q hT h hP hi ha c1'
  simp only [List.mem_cons,List.not_mem_nil,or_false] at ht
  rcases ht with rfl|rfl
  . have hn := named_q (i := i) h
    exact ⟨hn.r,hn.m,hn.o,q_app h.c hq⟩
  . exact ⟨hf.r,hf.m,hf.o,q_app h.c (hT.m _ _ _ _ hn (q_1 ⟨_,hq⟩))⟩
theorem AllQ.step (hT : TQ p Q) (h : AllQ p Q s) (hP : PI p s) : ∀ t ∈ u0 p s,AllQ p Q t := by
  intro t ht
  unfold u0 at ht
  by_cases c1 : s.code ≠ 0 \/ 400 <= s.steps
  . rw [if_pos c1] at ht;cases ht
  rw [if_neg c1] at ht
  by_cases c2 : s.pc = (p.code.length : Int)
  . rw [if_pos c2,List.mem_singleton] at ht;subst ht;exact ⟨h.r,h.m,h.o,h.c⟩
  rw [if_neg c2] at ht
  have h' := hP.steps omG
  have p0 := hP.pc0
  have p1 := hP.pc1
  have hA : AllQ p Q { s with steps := s.steps + 1 } := ⟨h.r,h.m,h.o,h.c⟩
  by_cases c3 : g5 p { s with steps := s.steps + 1 } (p.code.getD s.pc.toNat K.inss.dflt) ≠ 0
  . rw [if_pos c3,List.mem_singleton] at ht;subst ht;exact ⟨h.r,h.m,h.o,h.c⟩
  rw [if_neg c3] at ht
  exact hA.divide hT h' (mN hP.hp p0 omG) (by simpa using c3) t ht
end
/-! ### the conditions behind a step -/
structure CondS (s : V.Path) (l : List V.Path) : Prop where
  n2 : l.length <= 2
  one : l.length = 1 -> (l.getD 0 K.paths.dflt).cond = s.cond
  two : l.length = 2 -> ∃ c,okT c = true /\ c.w = 1 /\ (s1 1 1 0 [c]).2 = true /\ (l.getD 0 K.paths.dflt).cond = s.cond ++ [c] /\ (l.getD 1 K.paths.dflt).cond = s.cond ++ [(s1 1 1 0 [c]).1]
theorem zJ {s t : V.Path} (h : t.cond = s.cond) : CondS s [t] := ⟨Nat.le_succ 1,fun _=>h,fun e=>absurd e (by simp)⟩
theorem cond_0 {s : V.Path} : CondS s [] := ⟨Nat.zero_le _,fun e=>absurd e (by simp),fun e=>absurd e (by simp)⟩
theorem ite_fc {c : Prop} [Decidable c] {a b : V.Path × Bool} {l : List V.Term} (ha : a.1.cond = l) (hb : b.1.cond = l) : (if c then a else b).1.cond = l := by
  by_cases q : c
  . rw [if_pos q];exact ha
  . rw [if_neg q];exact hb
theorem qnj (p : V.Prog) (s : V.Path) (i : V.Ins) : (i6 p s i).1.cond = s.cond := by
  unfold i6
  repeat' (refine ite_fc ?_ ?_)
  all_goals rfl
theorem qkw (s : V.Path) (i : V.Ins) : (p9 s i).cond = s.cond := by
  unfold p9
  repeat' (first|rfl|(split))
theorem qnx {p : V.Prog} {s : V.Path} {i : V.Ins} : CondS s (g9 p s i) := by
  unfold g9
  by_cases c1 : (f3 p s i).2 = false
  . rw [if_pos c1];exact zJ rfl
  rw [if_neg c1]
  have c1' : (f3 p s i).2 = true := by simpa using c1
  by_cases c2 : r5 i = true /\ (f3 p s i).1.op = 0 /\ (f3 p s i).1.n = 1
  . rw [if_pos c2];exact zJ (qkw s i)
  rw [if_neg c2]
  by_cases c3 : (i6 p s i).2 = false
  . rw [if_pos c3];exact zJ rfl
  rw [if_neg c3]
  by_cases c4 : r5 i = false \/ (f3 p s i).1.op = 0
  . rw [if_pos c4];exact zJ (qnj p s i)
  rw [if_neg c4]
  by_cases c5 : (s1 1 1 0 [(f3 p s i).1]).2 = false \/ 60 <= s.cond.length \/ 60 <= s.turns.length
  . rw [if_pos c5];exact zJ rfl
  rw [if_neg c5]
  have ha : r5 i = true := by
    cases e : r5 i with
    | true=>rfl
    | false=>exact absurd (.inl e) c4
  have hn : (s1 1 1 0 [(f3 p s i).1]).2 = true := by
    cases e : (s1 1 1 0 [(f3 p s i).1]).2 with
    | true=>rfl
    | false=>exact absurd (.inl e) c5
  have q := kP ha c1'
  exact ⟨Nat.le_refl 2,fun e=>absurd e (by simp),fun _=>⟨_,q.1,q.2,hn,rfl,rfl⟩⟩
theorem bU (p : V.Prog) (s : V.Path) : CondS s (u0 p s) := by
  unfold u0
  by_cases c1 : s.code ≠ 0 \/ 400 <= s.steps
  . rw [if_pos c1];exact cond_0
  rw [if_neg c1]
  by_cases c2 : s.pc = (p.code.length : Int)
  . rw [if_pos c2];exact zJ rfl
  rw [if_neg c2]
  by_cases c3 : g5 p { s with steps := s.steps + 1 } (p.code.getD s.pc.toNat K.inss.dflt) ≠ 0
  . rw [if_pos c3];exact zJ rfl
  rw [if_neg c3]
  have q := qnx (p := p) (s := { s with steps := s.steps + 1 }) (i := p.code.getD s.pc.toNat K.inss.dflt)
  exact ⟨q.n2,q.one,q.two⟩
structure Qt (p : V.Prog) (w : Int) (t : V.Term) : Prop where
  ok : okT t = true
  w : t.w = w
  sz : sizeT t <= 240
  vs : ∀ v,v ∈ varsT t -> v.2 = p.w /\ ∃ k : Int,0 <= k /\ k < p.inn /\ v.1 = l6 k
theorem rP : ∀ {l : List V.Term} {v : ByteArray × Int},v ∈ l7 l -> ∃ t,t ∈ l /\ v ∈ varsT t
  | [],v,h=>by rw [l7] at h;cases h
  | t :: ts,v,h=>by
    rw [l7,List.mem_append] at h
    rcases h with q|q
    . exact ⟨t,List.mem_cons_self ..,q⟩
    . obtain ⟨u,hu,hv⟩ := rP q
      exact ⟨u,List.mem_cons_of_mem _ hu,hv⟩
theorem eV {op w n : Int} {ks : List V.Term} (h : okT (oT op w n ks) = true) : op ≠ 22 := by
  intro e
  subst e
  rw [aH,Bool.and_eq_true,Bool.and_eq_true] at h
  have := h.1.2
  exact absurd this (show ¬ (!decide ((22 : Int) = 22) || isNameP ByteArray.empty) = true by decide)
theorem qt_tq {p : V.Prog} (hp : i4 p = true) : TQ p (Qt p) := by
  have hw := progP_w hp
  have hm := a7 hp
  refine ⟨fun n hn=>⟨qB hn,rfl,by rw [sz_c];decide,fun v hv=>(iP hv).elim⟩,fun k h0 h1=>⟨tZ hw h0 omG,rfl, ?_,fun v hv=>?_⟩,fun op w n ks h hk=>⟨(eB h).1,(eB h).2,mp_sz h,fun v hv=>?_⟩⟩
  . show sizeT ⟨22,p.w,0,l6 k,[]⟩ <= 240
    rw [sizeT,g6];decide
  . rw [varsT,if_pos rfl,l7,List.mem_singleton] at hv
    subst hv
    exact ⟨rfl,k,h0,h1,rfl⟩
  . obtain ⟨h1,h2⟩ := dH h
    rw [h2] at hv
    have hv := qcr h1 hv
    rw [varsT,if_neg (eV h1)] at hv
    obtain ⟨t,ht,hv⟩ := rP hv
    obtain ⟨w',q⟩ := hk t ht
    exact q.vs v hv
theorem qX {w : Int} : ∀ (l m : List (ByteArray × Int)),(∀ s x,mget m s = some x -> x = w) -> (∀ v,v ∈ l -> v.2 = w) -> (gA m l).isSome = true
  | [],m,_,_=>rfl
  | (s,u) :: l,m,hm,hl=>by
    have hu : u = w := hl (s,u) (List.mem_cons_self ..)
    have hl' : ∀ v,v ∈ l -> v.2 = w := fun v hv=>hl v (List.mem_cons_of_mem _ hv)
    simp only [gA]
    cases e : mget m s with
    | some x =>
      have hx := hm s x e
      simp only
      rw [if_pos omG]
      exact qX l m hm hl'
    | none =>
      simp only
      refine qX l _ (fun s' x hx=>?_) hl'
      rw [yN e] at hx
      split at hx
      . cases hx;exact hu
      . exact hm s' x hx
theorem Qt.term {p : V.Prog} {w : Int} {t : V.Term} (h : Qt p w t) : i7 t = true := by
  unfold i7
  rw [h.ok,decide_eq_true h.sz,qX (w := p.w) (varsT t) [] (fun s x hx=>by cases hx) (fun v hv=>(h.vs v hv).1)];rfl
theorem wP {p : V.Prog} {w : Int} {l : List V.Term} (h : ∀ t,t ∈ l -> Qt p w t) : bG w l = true := by
  unfold bG
  rw [List.all_eq_true]
  intro t ht
  rw [Bool.and_eq_true,decide_eq_true_eq]
  exact ⟨(h t ht).w,(h t ht).term⟩
structure CT (s : V.Path) : Prop where
  c : 0 <= s.code /\ s.code <= 9
  t : ∀ x,x ∈ s.turns -> 0 <= x /\ x <= 1
section
variable {p : V.Prog} {s : V.Path} {i : V.Ins}
theorem ite_ct {c : Prop} [Decidable c] {a b : V.Path × Bool} (ha : CT a.1) (hb : CT b.1) : CT (if c then a else b).1 := by
  by_cases q : c
  . rw [if_pos q];exact ha
  . rw [if_neg q];exact hb
theorem CT.follow (h : CT s) : CT (i6 p s i).1 := by
  unfold i6
  repeat' (refine ite_ct ?_ ?_)
  all_goals first|exact ⟨h.c,h.t⟩|exact ⟨(show (0 : Int) <= 1 /\ (1 : Int) <= 9 by decide),h.t⟩
theorem CT.named (h : CT s) : CT (p9 s i) := by
  unfold p9
  split
  . exact ⟨h.c,h.t⟩
  split
  . exact ⟨(show (0 : Int) <= 8 /\ (8 : Int) <= 9 by decide),h.t⟩
  split
  . exact ⟨(show (0 : Int) <= 6 /\ (6 : Int) <= 9 by decide),h.t⟩
  . exact ⟨(show (0 : Int) <= 5 /\ (5 : Int) <= 9 by decide),h.t⟩
theorem stuck_c (p : V.Prog) (s : V.Path) (i : V.Ins) : 0 <= g5 p s i /\ g5 p s i <= 9 := by
  unfold g5
  repeat' split
  all_goals decide
theorem CT.turn (h : CT s) {t : V.Path} {l : List V.Term} {n : Int} (hn : 0 <= n /\ n <= 1) (ht : CT t) : CT { t with cond := l,turns := s.turns ++ [n] } := by
  refine ⟨ht.c,fun x hx=>?_⟩
  rcases List.mem_append.1 hx with q|q
  . exact h.t x q
  . rw [List.mem_singleton] at q;subst q;exact hn
theorem CT.divide (h : CT s) : ∀ t ∈ g9 p s i,CT t := by
  intro t ht
  unfold g9 at ht
  by_cases c1 : (f3 p s i).2 = false
  . rw [if_pos c1,List.mem_singleton] at ht;subst ht;exact ⟨by show (0 : Int) <= 9 /\ (9 : Int) <= 9;decide,h.t⟩
  rw [if_neg c1] at ht
  by_cases c2 : r5 i = true /\ (f3 p s i).1.op = 0 /\ (f3 p s i).1.n = 1
  . rw [if_pos c2,List.mem_singleton] at ht;subst ht;exact h.named
  rw [if_neg c2] at ht
  by_cases c3 : (i6 p s i).2 = false
  . rw [if_pos c3,List.mem_singleton] at ht;subst ht;exact ⟨by show (0 : Int) <= 9 /\ (9 : Int) <= 9;decide,h.t⟩
  rw [if_neg c3] at ht
  by_cases c4 : r5 i = false \/ (f3 p s i).1.op = 0
  . rw [if_pos c4,List.mem_singleton] at ht;subst ht;exact h.follow
  rw [if_neg c4] at ht
  by_cases c5 : (s1 1 1 0 [(f3 p s i).1]).2 = false \/ 60 <= s.cond.length \/ 60 <= s.turns.length
  . rw [if_pos c5,List.mem_singleton] at ht;subst ht;exact ⟨by show (0 : Int) <= 9 /\ (9 : Int) <= 9;decide,h.t⟩
  rw [if_neg c5] at ht
  simp only [List.mem_cons,List.not_mem_nil,or_false] at ht
  rcases ht with rfl|rfl
  . exact h.turn ⟨by decide,by decide⟩ h.named
  . exact h.turn ⟨by decide,by decide⟩ h.follow
theorem CT.step (h : CT s) : ∀ t ∈ u0 p s,CT t := by
  intro t ht
  unfold u0 at ht
  by_cases c1 : s.code ≠ 0 \/ 400 <= s.steps
  . rw [if_pos c1] at ht;cases ht
  rw [if_neg c1] at ht
  by_cases c2 : s.pc = (p.code.length : Int)
  . rw [if_pos c2,List.mem_singleton] at ht;subst ht;exact ⟨by show (0 : Int) <= 2 /\ (2 : Int) <= 9;decide,h.t⟩
  rw [if_neg c2] at ht
  by_cases c3 : g5 p { s with steps := s.steps + 1 } (p.code.getD s.pc.toNat K.inss.dflt) ≠ 0
  . rw [if_pos c3,List.mem_singleton] at ht;subst ht;exact ⟨stuck_c _ _ _,h.t⟩
  rw [if_neg c3] at ht
  exact CT.divide (s := { s with steps := s.steps + 1 }) ⟨h.c,h.t⟩ t ht
end
structure PX (p : V.Prog) (s : V.Path) : Prop where
  i : PI p s
  q : AllQ p (Qt p) s
  c : CT s
theorem PX.step {p : V.Prog} {s : V.Path} (h : PX p s) : ∀ t ∈ u0 p s,PX p t := fun t ht=>⟨h.i.step t ht,h.q.step (qt_tq h.i.hp) h.i t ht,h.c.step t ht⟩
structure PathIs (p : V.Prog) (s : V.Path) : Prop where
  hp : i4 p = true
  pc : inP s.pc 0 p.code.length = true
  rl : (s.regs.length : Int) = 4
  ml : (s.mem.length : Int) = p.mem
  sl : (s.stack.length : Int) <= 3
  inn : inP s.inn 0 p.inn = true
  ol : (s.out.length : Int) <= 6
  code : inP s.code 0 9 = true
  steps : inP s.steps 0 400 = true
  cl : (s.cond.length : Int) <= 60
  tl : (s.turns.length : Int) <= 60
  so : s.stack.all (fun x=>inP x 0 p.code.length) = true
  tu : s.turns.all (fun x=>inP x 0 1) = true
  ro : bG p.w s.regs = true
  mo : bG p.w s.mem = true
  oo : bG p.w s.out = true
  co : bG 1 s.cond = true
noncomputable def pathP (p : V.Prog) (s : V.Path) : Bool := @decide (PathIs p s) (Classical.propDecidable _)
theorem PX.is {p : V.Prog} {s : V.Path} (h : PX p s) : PathIs p s := by
  have a := h.i
  have b := h.q
  have c := h.c
  refine ⟨a.hp,k6.2 ⟨a.pc0,a.pc1⟩,by have := a.rl;omega,a.ml,by have := a.sl;omega,k6.2 ⟨a.i0,a.i1⟩,by have := a.ol;omega,k6.2 c.c,k6.2 ⟨a.st0,a.st1⟩,by have := a.cl;omega,by have := a.tl;omega,List.all_eq_true.2 (fun x hx=>k6.2 (a.so x hx)),List.all_eq_true.2 (fun x hx=>k6.2 (c.t x hx)),wP b.r,wP b.m,wP b.o,wP b.c⟩
def j2 (l : List Int) (nm : ByteArray) : Int := if nm = l6 0 then l.getD 0 0 else if nm = l6 1 then l.getD 1 0 else if nm = l6 2 then l.getD 2 0 else 0
theorem qa5 {l : List Int} {k : Int} (h0 : 0 <= k) (h1 : k < 3) : j2 l (l6 k) = l.getD k.toNat 0 := by
  have : k = 0 \/ k = 1 \/ k = 2 := by omega
  rcases this with rfl|rfl|rfl
  . unfold j2;rw [if_pos rfl];rfl
  . unfold j2;rw [if_neg (by decide),if_pos rfl];rfl
  . unfold j2;rw [if_neg (by decide),if_neg (by decide),if_pos rfl];rfl
structure InOk (p : V.Prog) (l : List Int) : Prop where
  len : (l.length : Int) = p.inn
  w : ∀ x,x ∈ l -> wordP p.w x = true
theorem in_at {p : V.Prog} {l : List Int} (h : InOk p l) {k : Int} (h0 : 0 <= k) (h1 : k < p.inn) : wordP p.w (l.getD k.toNat 0) = true := by
  have hl := h.len
  have hk : k.toNat < l.length := by omega
  rw [List.getD_eq_getElem?_getD,List.getElem?_eq_getElem hk]
  exact h.w _ (List.getElem_mem hk)
theorem Qt.good {p : V.Prog} {w : Int} {t : V.Term} {l : List Int} (h : Qt p w t) (hp : i4 p = true) (hl : InOk p l) : w7 (j2 l) t := by
  intro v hv
  obtain ⟨e,k,h0,h1,e2⟩ := h.vs v hv
  have hm := a7 hp
  rw [e,e2,qa5 h0 omG]
  exact in_at hl h0 h1
def o7 (σ : ByteArray -> Int) (s : V.Path) : Bool := s.cond.all fun t=>evT σ t == 1
noncomputable def cE (p : V.Prog) (σ : ByteArray -> Int) (s : V.Path) : Bool := pathP p s && o7 σ s
theorem path_y {p : V.Prog} {s : V.Path} (h : PX p s) : pathP p s = true := @decide_eq_true _ (Classical.propDecidable _) h.is
noncomputable def uN (p : V.Prog) (s : V.Path) : V.Term := ((u0 p s).getD 0 K.paths.dflt).cond.getD s.cond.length K.terms.dflt
noncomputable def iD (p : V.Prog) (σ : ByteArray -> Int) (s : V.Path) : Nat := if (u0 p s).length = 2 /\ evT σ (uN p s) ≠ 1 then 1 else 0
noncomputable def oN (p : V.Prog) (σ : ByteArray -> Int) (s : V.Path) : V.Path := (u0 p s).getD (iD p σ s) K.paths.dflt
noncomputable def forF (p : V.Prog) (σ : ByteArray -> Int) : Nat -> V.Path -> V.Path
  | 0,s=>s
  | f + 1,s=>if (u0 p s).length = 0 then s else forF p σ f (oN p σ s)
theorem rF {l : List V.Path} {k : Nat} (h : k < l.length) : l.getD k K.paths.dflt ∈ l := by
  rw [List.getD_eq_getElem?_getD,List.getElem?_eq_getElem h]
  exact List.getElem_mem h
section
variable {p : V.Prog} {s : V.Path} {l : List Int}
theorem aU (h : PX p s) (hl : InOk p l) (hc : o7 (j2 l) s = true) (hn : (u0 p s).length ≠ 0) :
    iD p (j2 l) s < (u0 p s).length /\ o7 (j2 l) (oN p (j2 l) s) = true /\ ∀ j,j < iD p (j2 l) s -> o7 (j2 l) ((u0 p s).getD j K.paths.dflt) = false := by
  have hS := bU p s
  have n2 := hS.n2
  by_cases c2 : (u0 p s).length = 2
  . obtain ⟨c,hk,hw,hnot,e0,e1⟩ := hS.two c2
    have ec : uN p s = c := by
      unfold uN
      rw [e0,List.getD_eq_getElem?_getD,List.getElem?_append_right (Nat.le_refl _),Nat.sub_self];rfl
    have m0 : (u0 p s).getD 0 K.paths.dflt ∈ u0 p s := rF omG
    have q0 := (h.step _ m0).q.c c (by rw [e0];exact List.mem_append_right _ (List.mem_singleton.2 rfl))
    have hg := q0.good h.i.hp hl
    have hv := eM hk hg
    rw [hw] at hv
    have hv2 := u4 hv
    have h01 : evT (j2 l) c = 0 \/ evT (j2 l) c = 1 := by
      have := hv2.2.1
      have := hv2.2.2
      have e : (2 : Int) ^ (1 : Int).toNat = 2 := rfl
      omega
    have en : evT (j2 l) (s1 1 1 0 [c]).1 = 1 - evT (j2 l) c := by
      rw [(dH hnot).2]
      exact qce hk hw hg
    have k0 : o7 (j2 l) ((u0 p s).getD 0 K.paths.dflt) = (evT (j2 l) c == 1) := by
      unfold o7 at hc ⊢
      rw [e0,List.all_append,hc,Bool.true_and]
      simp
    have k1 : o7 (j2 l) ((u0 p s).getD 1 K.paths.dflt) = (evT (j2 l) (s1 1 1 0 [c]).1 == 1) := by
      unfold o7 at hc ⊢
      rw [e1,List.all_append,hc,Bool.true_and]
      simp
    by_cases c1 : evT (j2 l) c = 1
    . have e : iD p (j2 l) s = 0 := by unfold iD;rw [ec,if_neg (fun q=>q.2 c1)]
      unfold oN
      rw [e]
      refine ⟨by omega, ?_,fun j hj=>absurd hj (Nat.not_lt_zero _)⟩
      rw [k0,c1];rfl
    . have e : iD p (j2 l) s = 1 := by unfold iD;rw [ec,if_pos ⟨c2,c1⟩]
      unfold oN
      rw [e]
      refine ⟨by omega, ?_,fun j hj=>?_⟩
      . rw [k1,en,show evT (j2 l) c = 0 by omega];rfl
      . obtain rfl : j = 0 := by omega
        rw [k0,show evT (j2 l) c = 0 by omega];rfl
  . have c1 : (u0 p s).length = 1 := by omega
    have e : iD p (j2 l) s = 0 := by unfold iD;rw [if_neg (fun q=>c2 q.1)]
    unfold oN
    rw [e]
    refine ⟨by omega, ?_,fun j hj=>absurd hj (Nat.not_lt_zero _)⟩
    have e0 := hS.one c1
    unfold o7 at hc ⊢
    rw [e0];exact hc
end
end Vg
