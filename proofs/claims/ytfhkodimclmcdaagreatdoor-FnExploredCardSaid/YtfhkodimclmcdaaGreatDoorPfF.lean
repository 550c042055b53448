/- A path's step is the machine's step, for each test for which the path holds: plain law. No condition. -/
import Derived.Test.YtfhkodimclmcdaaGreatDoorPfQ
import Derived.Test.YtfhkodimclmcdaaGreatDoorEvI
import Derived.Test.YtfhkodimclmcdaaGreatDoorEvS
namespace Vg
open Go Go.Proofs
def n5 (σ : ByteArray -> Int) (s : V.Path) : V.State := ⟨s.pc,s.regs.map (evT σ),s.mem.map (evT σ),s.stack,s.inn,s.out.map (evT σ),s.code,s.steps⟩
section
variable {σ : ByteArray -> Int}
theorem ev_dflt : evT σ K.terms.dflt = 0 := by show evT σ ⟨0,0,0,ByteArray.empty,[]⟩ = 0;rw [evT,if_pos rfl]
theorem qc0 {l : List V.Term} {k : Nat} : (l.map (evT σ)).getD k K.ints.dflt = evT σ (l.getD k K.terms.dflt) := by
  rw [List.getD_eq_getElem?_getD,List.getD_eq_getElem?_getD,List.getElem?_map]
  cases l[k]? with
  | none=>exact ev_dflt.symm
  | some x=>rfl
theorem map_set {l : List V.Term} {k : Nat} {t : V.Term} : (l.set k t).map (evT σ) = (l.map (evT σ)).set k (evT σ t) := List.map_set
theorem fD {s : V.Path} {k : Int} : l8 (n5 σ s) k = evT σ (rgT s k) := qc0
theorem wN {op w n : Int} {ks : List V.Term} (h : (s1 op w n ks).2 = true) (hg : ∀ t,t ∈ ks -> w7 σ t) : evT σ (s1 op w n ks).1 = evT σ (oT op w n ks) := by
  obtain ⟨h1,h2⟩ := dH h
  rw [h2]
  refine mkT_ev h1 (fun v hv=>?_)
  rw [varsT,if_neg (eV h1)] at hv
  obtain ⟨t,ht,hv⟩ := rP hv
  exact hg t ht v hv
theorem fL {op w n : Int} {ks : List V.Term} (h : (s1 op w n ks).2 = true) (hg : ∀ t,t ∈ ks -> w7 σ t) : w7 σ (s1 op w n ks).1 := by
  obtain ⟨h1,h2⟩ := dH h
  rw [h2]
  intro v hv
  have hv := qcr h1 hv
  rw [varsT,if_neg (eV h1)] at hv
  obtain ⟨t,ht,hv⟩ := rP hv
  exact hg t ht v hv
theorem nM {w n : Int} : w7 σ (cT w n) := fun _ hv=>(iP hv).elim
theorem g1 {a : V.Term} (ha : w7 σ a) : ∀ t,t ∈ [a] -> w7 σ t := q_1 ha
theorem g2 {a b : V.Term} (ha : w7 σ a) (hb : w7 σ b) : ∀ t,t ∈ [a,b] -> w7 σ t := q_2 ha hb
theorem g3 {a b c : V.Term} (ha : w7 σ a) (hb : w7 σ b) (hc : w7 σ c) : ∀ t,t ∈ [a,b,c] -> w7 σ t := q_3 ha hb hc
theorem xN {op w : Int} {a b : V.Term} (ho : 3 <= op /\ op <= 16) (h : (s1 op w 0 [a,b]).2 = true) (ha : w7 σ a) (hb : w7 σ b) : evT σ (s1 op w 0 [a,b]).1 = m4 op a.w (evT σ a) (evT σ b) := by
  rw [wN h (g2 ha hb)]
  exact tB (t := oT op w 0 [a,b]) ho
structure GW (σ : ByteArray -> Int) (w : Int) (t : V.Term) : Prop where
  ok : okT t = true
  w : t.w = w
  g : w7 σ t
theorem GW.wd {w : Int} {t : V.Term} (h : GW σ w t) : wordP w (evT σ t) = true := by rw [<- h.w];exact eM h.ok h.g
theorem uT {b : Bool} : p8 b = 1 ↔ b = true := by cases b <;> decide
variable {p : V.Prog}
theorem jZ {x : V.Term} (hp : i4 p = true) (hx : GW σ p.w x) (h : (wE p x).2 = true) : evT σ (wE p x).1 = p8 (decide (evT σ x = 0)) /\ w7 σ (wE p x).1 := by
  have h0 := zero_word (progP_w hp)
  refine ⟨?_,fL h (g2 nM hx.g)⟩
  unfold wE at h ⊢
  rw [xN (by decide) h nM hx.g,iE,b14 h0 hx.wd]
  congr 1
  by_cases c : evT σ x = 0
  . rw [c];rfl
  . rw [decide_eq_false c];exact beq_eq_false_iff_ne.2 (fun e=>c e.symm)
theorem less_ev {x : V.Term} (hp : i4 p = true) (hx : GW σ p.w x) (h : (gC p x).2 = true) : evT σ (gC p x).1 = p8 (decide (evT σ x < p.mem)) /\ w7 σ (gC p x).1 := by
  have h0 := (a7 hp).2.2.1
  refine ⟨?_,fL h (g2 hx.g nM)⟩
  unfold gC at h ⊢
  rw [xN (by decide) h hx.g nM,iE,hx.w,b15 hx.wd h0]
theorem qcd {c : V.Term} {b : Bool} (h : (s1 1 1 0 [c]).2 = true) (hw : c.w = 1) (hg : w7 σ c) (hb : evT σ c = p8 b) : evT σ (s1 1 1 0 [c]).1 = p8 (!b) := by
  rw [wN h (g1 hg)]
  have e : evT σ (oT 1 1 0 [c]) = r7 1 c.w (evT σ c) := rI (t := oT 1 1 0 [c]) (.inl rfl)
  rw [e,hw,hb]
  cases b <;> decide
theorem qhp {x : V.Term} (hp : i4 p = true) (hx : GW σ p.w x) (h : (s9 p x).2 = true) : evT σ (s9 p x).1 = p8 (decide (p.mem <= evT σ x)) /\ w7 σ (s9 p x).1 := by
  unfold s9 at h ⊢
  by_cases c : (gC p x).2 = true
  . rw [if_pos c] at h ⊢
    obtain ⟨e,g⟩ := less_ev hp hx c
    refine ⟨?_,fL h (g1 g)⟩
    rw [qcd h (eB c).2 g e]
    congr 1
    by_cases q : evT σ x < p.mem
    . rw [decide_eq_true q,decide_eq_false omG];rfl
    . rw [decide_eq_false q,decide_eq_true omG];rfl
  . rw [if_neg c] at h;cases h
theorem qgl {k : Int} {x a b : V.Term} (hk : wordP p.w k = true) (hx : GW σ p.w x) (ha : w7 σ a) (hb : w7 σ b) (h : (p7 p k x a b).2 = true) :
    evT σ (p7 p k x a b).1 = (if evT σ x = k then evT σ a else evT σ b) /\ w7 σ (p7 p k x a b).1 := by
  unfold p7 at h ⊢
  by_cases c : (s1 14 1 0 [cT p.w k,x]).2 = true
  . rw [if_pos c] at h ⊢
    have g := fL c (g2 nM hx.g)
    refine ⟨?_,fL h (g3 g ha hb)⟩
    rw [wN h (g3 g ha hb)]
    have e : evT σ (oT 17 p.w 0 [(s1 14 1 0 [cT p.w k,x]).1,a,b]) = if evT σ (s1 14 1 0 [cT p.w k,x]).1 = 1 then evT σ a else evT σ b := nG (t := oT 17 p.w 0 [(s1 14 1 0 [cT p.w k,x]).1,a,b]) rfl
    rw [e,xN (by decide) c nM hx.g,iE,b14 hk hx.wd]
    by_cases q : evT σ x = k
    . rw [q,beq_self_eq_true,if_pos (show p8 true = 1 from rfl),if_pos rfl]
    . rw [beq_eq_false_iff_ne.2 (fun e=>q e.symm),if_neg q];rfl
  . rw [if_neg c] at h;cases h
theorem qc7 {mm : List V.Term} {x : V.Term} (hp : i4 p = true) (hm : ∀ t,t ∈ mm -> GW σ p.w t) (hl : (mm.length : Int) = p.mem) (hx : GW σ p.w x) : ∀ j : Nat,(j : Int) <= p.mem - 1 -> (r6 p mm x j).2 = true ->
    (p.mem - 1 - j <= evT σ x -> evT σ x < p.mem -> evT σ (r6 p mm x j).1 = evT σ (kAt mm (evT σ x).toNat)) /\ w7 σ (r6 p mm x j).1
  | 0,hj,_=>by
    have h1 := (a7 hp).1
    refine ⟨fun q1 q2=>?_,(gD hm omG).g⟩
    have e : (evT σ x).toNat = p.mem.toNat - 1 := by omega
    rw [e];rfl
  | j + 1,hj,h=>by
    have h1 := (a7 hp).1
    rw [r6] at h ⊢
    by_cases c : (r6 p mm x j).2 = true
    . rw [if_pos c] at h ⊢
      have ih := qc7 hp hm hl hx j omG c
      obtain ⟨e,g⟩ := qgl (iR hp omG omG) hx (gD hm omG).g ih.2 h
      refine ⟨fun q1 q2=>?_,g⟩
      rw [e]
      by_cases q : evT σ x = p.mem - 2 - j
      . rw [if_pos q]
        have e2 : (evT σ x).toNat = p.mem.toNat - 2 - j := by omega
        rw [e2]
      . rw [if_neg q]
        exact ih.1 omG q2
    . rw [if_neg c] at h;cases h
theorem qlc {mm : List V.Term} {x : V.Term} (hp : i4 p = true) (hm : ∀ t,t ∈ mm -> GW σ p.w t) (hl : (mm.length : Int) = p.mem) (hx : GW σ p.w x) (hi : evT σ x < p.mem) (h : (rB p mm x).2 = true) :
    evT σ (rB p mm x).1 = evT σ (kAt mm (evT σ x).toNat) := by
  unfold rB at h ⊢
  by_cases q : x.op = 0
  . rw [if_pos q,tA q]
  . rw [if_neg q] at h ⊢
    have h1 := (a7 hp).1
    have h0 := (u4 hx.wd).2.1
    exact (qc7 hp hm hl hx _ omG h).1 omG hi
theorem qih {mm : List V.Term} {x t : V.Term} (hp : i4 p = true) (hm : ∀ t,t ∈ mm -> GW σ p.w t) (hl : (mm.length : Int) = p.mem) (hx : GW σ p.w x) (ht : w7 σ t) (h : (bB p mm x t).2 = true) :
    (bB p mm x t).1.map (evT σ) = (mm.map (evT σ)).set (evT σ x).toNat (evT σ t) := by
  unfold bB at h ⊢
  by_cases q : x.op = 0
  . rw [if_pos q,tA q];exact map_set
  . rw [if_neg q] at h ⊢
    by_cases z : jA p mm x t p.mem.toNat = true
    . rw [if_pos z]
      have h0 := (u4 hx.wd).2.1
      apply List.ext_getElem?
      intro j
      rw [List.getElem?_set]
      show ((cB p mm x t p.mem.toNat).map (evT σ))[j]? = _
      unfold cB
      rw [List.map_map,List.getElem?_map,List.length_map]
      by_cases hj : j < p.mem.toNat
      . rw [List.getElem?_range hj]
        have e := (qgl (iR hp omG omG) hx ht (gD hm (k := j) omG).g (cQ _ z j hj)).1
        show some (evT σ (p7 p (j : Int) x t (kAt mm j)).1) = _
        rw [e]
        by_cases c : (evT σ x).toNat = j
        . rw [if_pos omG,if_pos c,if_pos omG]
        . rw [if_neg omG,if_neg c,List.getElem?_map,List.getElem?_eq_getElem omG]
          rw [kAt,List.getD_eq_getElem?_getD,List.getElem?_eq_getElem omG];rfl
      . rw [List.getElem?_eq_none (by rw [List.length_range];omega)]
        by_cases c : (evT σ x).toNat = j
        . rw [if_pos c,if_neg omG];rfl
        . rw [if_neg c,List.getElem?_eq_none (by rw [List.length_map];omega)];rfl
    . rw [if_neg z] at h;cases h
theorem oper_ev {op : Int} {a b : V.Term} (ho : 3 <= op /\ op <= 16) (ha : GW σ p.w a) (hb : GW σ p.w b) (h : (w9 p op a b).2 = true) : evT σ (w9 p op a b).1 = m4 op p.w (evT σ a) (evT σ b) := by
  unfold w9 at h ⊢
  by_cases c : (s1 op (e8 op p.w) 0 [a,b]).2 = false \/ op < 14
  . rw [if_pos c] at h ⊢
    rw [xN ho h ha.g hb.g,ha.w]
  . rw [if_neg c] at h ⊢
    have c' : (s1 op (e8 op p.w) 0 [a,b]).2 = true := by
      cases e : (s1 op (e8 op p.w) 0 [a,b]).2 with
      | true=>rfl
      | false=>exact absurd (.inl e) c
    have c3 : 14 <= op := by omega
    have g := fL c' (g2 ha.g hb.g)
    rw [wN h (g1 g)]
    have e : evT σ (oT 20 p.w 0 [(s1 op (e8 op p.w) 0 [a,b]).1]) = z8 (s1 op (e8 op p.w) 0 [a,b]).1.w (evT σ (s1 op (e8 op p.w) 0 [a,b]).1) p.w ((20 : Int) == 21) := vJ (t := oT 20 p.w 0 [(s1 op (e8 op p.w) 0 [a,b]).1]) (.inl rfl)
    have hw := eB c'
    have hf := sJ (dH h).1 (.inl rfl)
    have hf2 : (s1 op (e8 op p.w) 0 [a,b]).1.w <= p.w := hf
    have hwd := eM hw.1 g
    have hpw := k6.1 (u4 ha.wd).1
    rw [e,show ((20 : Int) == 21) = false from rfl,mK hwd hf2 hpw.2,xN ho c' ha.g hb.g,ha.w]
end
/-! ### the step -/
def yB (p : V.Prog) (S : V.State) (i : V.Ins) : Bool :=
  if i.op = 10 \/ i.op = 13 then decide (l8 S i.a = 0)
  else if i.op = 3 then decide (l8 S i.b = 0)
  else if i.op = 7 then decide (p.mem <= l8 S i.b)
  else decide (p.mem <= l8 S i.a)
section
variable {σ : ByteArray -> Int} {p : V.Prog} {s : V.Path} {i : V.Ins} {l : List Int}
theorem ins_3c {i : V.Ins} {w n : Int} (h : j5 i w n = true) (ho : i.op = 3) : 3 <= i.c /\ i.c <= 16 := by
  unfold j5 at h
  rw [if_neg omG,if_neg omG,if_pos ho] at h
  simp only [Bool.and_eq_true,k6] at h
  exact h.2
theorem Qt.gw {w : Int} {t : V.Term} (h : Qt p w t) (hp : i4 p = true) (hl : InOk p l) : GW (j2 l) w t := ⟨h.ok,h.w,h.good hp hl⟩
theorem qY (hs : PI p s) (hq : AllQ p (Qt p) s) (hl : InOk p l) (hi : j5 i p.w p.code.length = true) (ha : r5 i = true) (h : (f3 p s i).2 = true) :
    evT (j2 l) (f3 p s i).1 = p8 (yB p (n5 (j2 l) s) i) /\ w7 (j2 l) (f3 p s i).1 := by
  have hp := hs.hp
  have hia := fun q=>ins_a (op := i.op) (a := i.a) (b := i.b) (d := i.c) hi q
  have hib := fun q=>i8 (op := i.op) (a := i.a) (b := i.b) (d := i.c) hi q
  unfold r5 at ha
  have ha := of_decide_eq_true ha
  unfold f3 at h ⊢
  unfold yB
  by_cases c1 : i.op = 10 \/ i.op = 13
  . rw [if_pos c1] at h ⊢
    rw [if_pos c1,fD]
    exact jZ hp ((hq.rg hs (hia omG)).gw hp hl) h
  rw [if_neg c1] at h ⊢
  rw [if_neg c1]
  by_cases c2 : i.op = 3
  . rw [if_pos c2] at h ⊢
    rw [if_pos c2,fD]
    rw [if_pos omG] at h ⊢
    exact jZ hp ((hq.rg hs (hib omG)).gw hp hl) h
  rw [if_neg c2] at h ⊢
  rw [if_neg c2]
  by_cases c3 : i.op = 7
  . rw [if_pos c3] at h ⊢
    rw [if_pos c3,fD]
    exact qhp hp ((hq.rg hs (hib omG)).gw hp hl) h
  rw [if_neg c3] at h ⊢
  rw [if_neg c3,fD]
  rw [if_pos omG] at h ⊢
  exact qhp hp ((hq.rg hs (hia omG)).gw hp hl) h
theorem qni (hs : PI p s) (hq : AllQ p (Qt p) s) (hl : InOk p l) (hi : j5 i p.w p.code.length = true) (hk : g5 p s i = 0) (hb : r5 i = true -> yB p (n5 (j2 l) s) i = false) (h : (i6 p s i).2 = true) :
    n5 (j2 l) (i6 p s i).1 = aC p (n5 (j2 l) s) i l := by
  have hp := hs.hp
  have hm := a7 hp
  have hia := fun q=>ins_a (op := i.op) (a := i.a) (b := i.b) (d := i.c) hi q
  have hib := fun q=>i8 (op := i.op) (a := i.a) (b := i.b) (d := i.c) hi q
  have hM : ∀ t,t ∈ s.mem -> GW (j2 l) p.w t := fun t ht=>(hq.m t ht).gw hp hl
  have rw' : ∀ {k : Int},0 <= k /\ k < 4 -> GW (j2 l) p.w (rgT s k) := fun hk=>(hq.rg hs hk).gw hp hl
  unfold i6 at h ⊢
  unfold aC
  by_cases c1 : i.op = 1
  . rw [if_pos c1,if_pos c1]
    simp only [n5,map_set,iE]
  rw [if_neg c1] at h ⊢
  rw [if_neg c1]
  by_cases c2 : i.op = 2
  . rw [if_pos c2,if_pos c2,fD]
    simp only [n5,map_set]
  rw [if_neg c2] at h ⊢
  rw [if_neg c2]
  by_cases c3 : i.op = 3
  . rw [if_pos c3] at h ⊢
    rw [if_pos c3,fD,fD,<- oper_ev (ins_3c hi c3) (rw' (hia omG)) (rw' (hib omG)) h]
    simp only [n5,map_set]
  rw [if_neg c3] at h ⊢
  rw [if_neg c3]
  by_cases c4 : i.op = 4
  . rw [if_pos c4] at h ⊢
    have g := rw' (hia omG)
    have e : evT (j2 l) (s1 1 p.w 0 [rgT s i.a]).1 = r7 1 p.w (evT (j2 l) (rgT s i.a)) := by
      rw [wN h (g1 g.g)]
      have e2 : evT (j2 l) (oT 1 p.w 0 [rgT s i.a]) = r7 1 (rgT s i.a).w (evT (j2 l) (rgT s i.a)) := rI (t := oT 1 p.w 0 [rgT s i.a]) (.inl rfl)
      rw [e2,g.w]
    rw [if_pos c4,fD,<- e]
    simp only [n5,map_set]
  rw [if_neg c4] at h ⊢
  rw [if_neg c4]
  by_cases c5 : i.op = 5
  . have hlt : s.inn < p.inn := by
      unfold g5 at hk
      by_cases q : p.inn <= s.inn
      . rw [if_pos ⟨c5,q⟩] at hk;cases hk
      . omega
    have e : evT (j2 l) (varT p.w s.inn) = l.getD s.inn.toNat K.ints.dflt := by
      rw [jC,if_neg (show ¬ (22 : Int) = 0 by decide),if_pos rfl]
      exact qa5 hs.i0 omG
    rw [if_pos c5,if_pos c5]
    simp only [n5,map_set]
    rw [<- e]
  rw [if_neg c5] at h ⊢
  rw [if_neg c5]
  by_cases c6 : i.op = 6
  . rw [if_pos c6,if_pos c6,fD]
    simp only [n5,List.map_append,List.map_cons,List.map_nil]
  rw [if_neg c6] at h ⊢
  rw [if_neg c6]
  by_cases c7 : i.op = 7
  . rw [if_pos c7] at h ⊢
    have hb7 := hb (by unfold r5;rw [c7];exact decide_eq_true omG)
    unfold yB at hb7
    rw [if_neg omG,if_neg omG,if_pos c7,fD] at hb7
    have hb7 := of_decide_eq_false hb7
    rw [if_pos c7,fD]
    have e := qlc hp hM hs.ml (rw' (hib omG)) omG h
    simp only [n5,map_set,qc0,e]
  rw [if_neg c7] at h ⊢
  rw [if_neg c7]
  by_cases c8 : i.op = 8
  . rw [if_pos c8] at h ⊢
    rw [if_pos c8,fD,fD]
    have e := qih hp hM hs.ml (rw' (hia omG)) (rw' (hib omG)).g h
    simp only [n5,e]
  rw [if_neg c8] at h ⊢
  rw [if_neg c8]
  by_cases c9 : i.op = 9
  . rw [if_pos c9,if_pos c9];rfl
  rw [if_neg c9] at h ⊢
  rw [if_neg c9]
  by_cases c10 : i.op = 10
  . have hb10 := hb (by unfold r5;rw [c10];exact decide_eq_true omG)
    unfold yB at hb10
    rw [if_pos omG] at hb10
    have hb10 := of_decide_eq_false hb10
    rw [if_neg omG,if_neg omG,if_neg omG,if_pos c10,if_neg hb10];rfl
  rw [if_neg c10]
  by_cases c11 : i.op = 11
  . rw [if_pos c11,if_pos c11];rfl
  rw [if_neg c11] at h ⊢
  rw [if_neg c11]
  by_cases c12 : i.op = 12
  . rw [if_pos c12,if_pos c12];rfl
  rw [if_neg c12] at h ⊢
  rw [if_neg c12]
  by_cases c14 : i.op = 14
  . rw [if_pos c14,if_pos c14];rfl
  rw [if_neg c14,if_neg c14];rfl
theorem why_0 (hk : g5 p s i = 0) (hb : r5 i = true -> yB p (n5 (j2 l) s) i = false) : m6 p (n5 (j2 l) s) i = 0 := by
  have hlen : (n5 (j2 l) s).out.length = s.out.length := List.length_map _
  unfold g5 at hk
  unfold m6
  by_cases c5 : i.op = 5
  . rw [if_pos c5]
    by_cases q : p.inn <= s.inn
    . rw [if_pos ⟨c5,q⟩] at hk;cases hk
    . exact if_neg q
  rw [if_neg (fun q=>c5 q.1)] at hk
  rw [if_neg c5]
  by_cases c6 : i.op = 6
  . rw [if_pos c6,hlen]
    by_cases q : 6 <= (s.out.length : Int)
    . rw [if_pos ⟨c6,q⟩] at hk;cases hk
    . exact if_neg q
  rw [if_neg (fun q=>c6 q.1)] at hk
  rw [if_neg c6]
  by_cases c7 : i.op = 7
  . rw [if_pos c7]
    have hb7 := hb (by unfold r5;rw [c7];exact decide_eq_true omG)
    unfold yB at hb7
    rw [if_neg omG,if_neg omG,if_pos c7] at hb7
    exact if_neg (of_decide_eq_false hb7)
  rw [if_neg c7]
  by_cases c8 : i.op = 8
  . rw [if_pos c8]
    have hb8 := hb (by unfold r5;rw [c8];exact decide_eq_true omG)
    unfold yB at hb8
    rw [if_neg omG,if_neg omG,if_neg c7] at hb8
    exact if_neg (of_decide_eq_false hb8)
  rw [if_neg c8]
  by_cases c3 : i.op = 3
  . rw [if_pos c3]
    by_cases q : i.c = 6 \/ i.c = 7
    . have hb3 := hb (by unfold r5;exact decide_eq_true omG)
      unfold yB at hb3
      rw [if_neg omG,if_pos c3] at hb3
      exact if_neg (fun z=>of_decide_eq_false hb3 z.2)
    . exact if_neg (fun z=>q z.1)
  rw [if_neg c3]
  by_cases c11 : i.op = 11
  . rw [if_pos c11]
    by_cases q : 3 <= (s.stack.length : Int)
    . rw [if_pos ⟨c11,q⟩] at hk;cases hk
    . exact if_neg q
  rw [if_neg (fun q=>c11 q.1)] at hk
  rw [if_neg c11]
  by_cases c12 : i.op = 12
  . rw [if_pos c12]
    by_cases q : (s.stack.length : Int) = 0
    . rw [if_pos ⟨c12,q⟩] at hk;cases hk
    . exact if_neg q
  rw [if_neg c12]
  by_cases c13 : i.op = 13
  . rw [if_pos c13]
    have hb13 := hb (by unfold r5;rw [c13];exact decide_eq_true omG)
    unfold yB at hb13
    rw [if_pos omG] at hb13
    exact if_neg (of_decide_eq_false hb13)
  exact if_neg c13
theorem why_s (hk : g5 p s i ≠ 0) : m6 p (n5 (j2 l) s) i = g5 p s i := by
  have hlen : (n5 (j2 l) s).out.length = s.out.length := List.length_map _
  unfold g5 at hk ⊢
  unfold m6
  by_cases c5 : i.op = 5 /\ p.inn <= s.inn
  . rw [if_pos c5,if_pos c5.1];exact if_pos c5.2
  rw [if_neg c5] at hk ⊢
  by_cases c6 : i.op = 6 /\ 6 <= (s.out.length : Int)
  . rw [if_pos c6,if_neg omG,if_pos c6.1,hlen,if_pos c6.2]
  rw [if_neg c6] at hk ⊢
  by_cases c11 : i.op = 11 /\ 3 <= (s.stack.length : Int)
  . rw [if_pos c11,if_neg omG,if_neg omG,if_neg omG,if_neg omG,if_neg omG,if_pos c11.1];exact if_pos c11.2
  rw [if_neg c11] at hk ⊢
  by_cases c12 : i.op = 12 /\ (s.stack.length : Int) = 0
  . rw [if_pos c12,if_neg omG,if_neg omG,if_neg omG,if_neg omG,if_neg omG,if_neg omG,if_pos c12.1];exact if_pos c12.2
  rw [if_neg c12] at hk;exact absurd rfl hk
theorem qck (ha : r5 i = true) (hb : yB p (n5 (j2 l) s) i = true) :
    n5 (j2 l) (p9 s i) = if m6 p (n5 (j2 l) s) i = 0 then aC p (n5 (j2 l) s) i l else { n5 (j2 l) s with code := m6 p (n5 (j2 l) s) i } := by
  unfold r5 at ha
  have ha := of_decide_eq_true ha
  unfold yB at hb
  unfold p9
  by_cases c10 : i.op = 10
  . rw [if_pos c10]
    rw [if_pos (.inl c10)] at hb
    have hb := of_decide_eq_true hb
    have e : m6 p (n5 (j2 l) s) i = 0 := by
      unfold m6
      rw [if_neg omG,if_neg omG,if_neg omG,if_neg omG,if_neg omG,if_neg omG,if_neg omG,if_neg omG]
    rw [if_pos e]
    unfold aC
    rw [if_neg omG,if_neg omG,if_neg omG,if_neg omG,if_neg omG,if_neg omG,if_neg omG,if_neg omG,if_neg omG,if_pos c10,if_pos hb];rfl
  rw [if_neg c10]
  by_cases c13 : i.op = 13
  . rw [if_pos c13]
    rw [if_pos (.inr c13)] at hb
    have hb := of_decide_eq_true hb
    have e : m6 p (n5 (j2 l) s) i = 8 := by
      unfold m6
      rw [if_neg omG,if_neg omG,if_neg omG,if_neg omG,if_neg omG,if_neg omG,if_neg omG,if_pos c13,if_pos hb]
    rw [e,if_neg (by decide)];rfl
  rw [if_neg c13]
  rw [if_neg omG] at hb
  by_cases c3 : i.op = 3
  . rw [if_pos c3]
    rw [if_pos c3] at hb
    have hb := of_decide_eq_true hb
    have e : m6 p (n5 (j2 l) s) i = 6 := by
      unfold m6
      rw [if_neg omG,if_neg omG,if_neg omG,if_neg omG,if_pos c3,if_pos ⟨by omega,hb⟩]
    rw [e,if_neg (by decide)];rfl
  rw [if_neg c3]
  rw [if_neg c3] at hb
  have e : m6 p (n5 (j2 l) s) i = 5 := by
    unfold m6
    rw [if_neg omG,if_neg omG]
    by_cases c7 : i.op = 7
    . rw [if_pos c7] at hb
      rw [if_pos c7,if_pos (of_decide_eq_true hb)]
    . rw [if_neg c7] at hb
      rw [if_neg c7,if_pos omG,if_pos (of_decide_eq_true hb)]
  rw [e,if_neg (by decide)];rfl
theorem qik (h : PX p s) (hl : InOk p l) {t : V.Path} (ht : t ∈ u0 p s) (hc : o7 (j2 l) t = true) (h9 : t.code ≠ 9) : n5 (j2 l) t = bA p (n5 (j2 l) s) l := by
  unfold u0 at ht
  unfold bA
  by_cases c1 : s.code ≠ 0 \/ 400 <= s.steps
  . rw [if_pos c1] at ht;cases ht
  rw [if_neg c1] at ht
  have n1 : s.code = 0 /\ s.steps < 400 := by omega
  rw [if_pos (show (n5 (j2 l) s).code = 0 /\ (n5 (j2 l) s).steps < 400 from n1)]
  by_cases c2 : s.pc = (p.code.length : Int)
  . rw [if_pos c2,List.mem_singleton] at ht
    subst ht
    rw [if_pos (show (n5 (j2 l) s).pc = (p.code.length : Int) from c2)];rfl
  rw [if_neg c2] at ht
  rw [if_neg (show ¬ (n5 (j2 l) s).pc = (p.code.length : Int) from c2)]
  have hI := h.i
  have hQ := h.q
  have hpc : s.pc < p.code.length := by have := hI.pc1;omega
  have hins := mN hI.hp hI.pc0 hpc
  have hI2 : PI p { s with steps := s.steps + 1 } := ⟨hI.hp,hI.pc0,hI.pc1,hI.rl,hI.ro,hI.ml,hI.mo,hI.sl,hI.so,hI.i0,hI.i1,hI.ol,hI.oo,(by have := hI.st0;show 0 <= s.steps + 1;omega),(by show s.steps + 1 <= 400;omega),hI.cl,hI.co,hI.tl⟩
  have hQ2 : AllQ p (Qt p) { s with steps := s.steps + 1 } := ⟨hQ.r,hQ.m,hQ.o,hQ.c⟩
  have eS : ({ n5 (j2 l) s with steps := (n5 (j2 l) s).steps + 1 } : V.State) = n5 (j2 l) { s with steps := s.steps + 1 } := rfl
  have eI : p.code.getD (n5 (j2 l) s).pc.toNat K.inss.dflt = p.code.getD s.pc.toNat K.inss.dflt := rfl
  rw [eS,eI]
  generalize hs' : ({ s with steps := s.steps + 1 } : V.Path) = s' at *
  generalize p.code.getD s.pc.toNat K.inss.dflt = i at *
  have fin : ∀ x : V.State,x = (if m6 p (n5 (j2 l) s') i = 0 then aC p (n5 (j2 l) s') i l else { n5 (j2 l) s' with code := m6 p (n5 (j2 l) s') i }) ->
      x = (if m6 p (n5 (j2 l) s') i = 0 then aC p (n5 (j2 l) s') i l else { n5 (j2 l) s with steps := (n5 (j2 l) s).steps + 1,code := m6 p (n5 (j2 l) s') i }) := by
    intro x hx
    rw [hx,<- hs'];rfl
  refine fin _ ?_
  by_cases c3 : g5 p s' i ≠ 0
  . rw [if_pos c3,List.mem_singleton] at ht
    rw [why_s c3,if_neg c3,ht]
    subst hs';rfl
  rw [if_neg c3] at ht
  have c3 : g5 p s' i = 0 := by simpa using c3
  have doF : (i6 p s' i).2 = true -> (r5 i = true -> yB p (n5 (j2 l) s') i = false) -> n5 (j2 l) (i6 p s' i).1 = if m6 p (n5 (j2 l) s') i = 0 then aC p (n5 (j2 l) s') i l else { n5 (j2 l) s' with code := m6 p (n5 (j2 l) s') i } := by
    intro hf hb
    rw [if_pos (why_0 c3 hb),qni hI2 hQ2 hl hins c3 hb hf]
  unfold g9 at ht
  by_cases d1 : (f3 p s' i).2 = false
  . rw [if_pos d1,List.mem_singleton] at ht
    rw [ht] at h9;exact absurd rfl h9
  rw [if_neg d1] at ht
  have d1 : (f3 p s' i).2 = true := by simpa using d1
  by_cases d2 : r5 i = true /\ (f3 p s' i).1.op = 0 /\ (f3 p s' i).1.n = 1
  . rw [if_pos d2,List.mem_singleton] at ht
    have e := (qY hI2 hQ2 hl hins d2.1 d1).1
    rw [tA d2.2.1,d2.2.2] at e
    rw [ht]
    exact qck d2.1 (uT.1 e.symm)
  rw [if_neg d2] at ht
  by_cases d3 : (i6 p s' i).2 = false
  . rw [if_pos d3,List.mem_singleton] at ht
    rw [ht] at h9;exact absurd rfl h9
  rw [if_neg d3] at ht
  have d3 : (i6 p s' i).2 = true := by simpa using d3
  by_cases d4 : r5 i = false \/ (f3 p s' i).1.op = 0
  . rw [if_pos d4,List.mem_singleton] at ht
    rw [ht]
    refine doF d3 (fun ha=>?_)
    have o : (f3 p s' i).1.op = 0 := by
      rcases d4 with q|q
      . rw [ha] at q;cases q
      . exact q
    have e := (qY hI2 hQ2 hl hins ha d1).1
    rw [tA o] at e
    cases q : yB p (n5 (j2 l) s') i with
    | false=>rfl
    | true=>rw [q] at e;exact absurd ⟨ha,o,e⟩ d2
  rw [if_neg d4] at ht
  have ha : r5 i = true := by
    cases q : r5 i with
    | true=>rfl
    | false=>exact absurd (.inl q) d4
  by_cases d5 : (s1 1 1 0 [(f3 p s' i).1]).2 = false \/ 60 <= s'.cond.length \/ 60 <= s'.turns.length
  . rw [if_pos d5,List.mem_singleton] at ht
    rw [ht] at h9;exact absurd rfl h9
  rw [if_neg d5] at ht
  have d5 : (s1 1 1 0 [(f3 p s' i).1]).2 = true := by
    cases q : (s1 1 1 0 [(f3 p s' i).1]).2 with
    | true=>rfl
    | false=>exact absurd (.inl q) d5
  obtain ⟨e,g⟩ := qY hI2 hQ2 hl hins ha d1
  simp only [List.mem_cons,List.not_mem_nil,or_false] at ht
  rcases ht with rfl|rfl
  . have ec : evT (j2 l) (f3 p s' i).1 = 1 := by
      unfold o7 at hc
      rw [List.all_append,Bool.and_eq_true] at hc
      simpa using hc.2
    rw [e] at ec
    exact qck ha (uT.1 ec)
  . have ec : evT (j2 l) (s1 1 1 0 [(f3 p s' i).1]).1 = 1 := by
      unfold o7 at hc
      rw [List.all_append,Bool.and_eq_true] at hc
      simpa using hc.2
    have hw : (f3 p s' i).1.w = 1 := (tF (dH d5).1 (.inl rfl))
    rw [qcd d5 hw g e] at ec
    have eb := uT.1 ec
    refine doF d3 (fun _=>?_)
    cases q : yB p (n5 (j2 l) s') i with
    | false=>rfl
    | true=>rw [q] at eb;cases eb
def yG (p : V.Prog) (l : List Int) : Nat -> V.State -> V.State
  | 0,S=>S
  | f + 1,S=>yG p l f (bA p S l)
theorem qao {S : V.State} (h : ¬ (S.code = 0 /\ S.steps < 400)) : ∀ f,yG p l f S = S
  | 0=>rfl
  | f + 1=>by
    have e : bA p S l = S := by unfold bA;rw [if_neg h]
    rw [yG,e,qao h f]
theorem qim (h : (u0 p s).length = 0) : s.code ≠ 0 \/ 400 <= s.steps := by
  by_cases c : s.code ≠ 0 \/ 400 <= s.steps
  . exact c
  . exfalso
    have e : u0 p s = [] := List.length_eq_zero_iff.1 h
    unfold u0 at e
    rw [if_neg c] at e
    split at e
    . cases e
    split at e
    . cases e
    unfold g9 at e
    repeat' split at e
    all_goals cases e
theorem step_9 (h : s.code = 9) : u0 p s = [] := by
  unfold u0
  rw [if_pos (.inl omG)]
end
noncomputable def aB (p : V.Prog) (σ : ByteArray -> Int) (L : List V.Path) : Nat -> List Int
  | 0=>[]
  | k + 1=>if cE p σ (L.getD k K.paths.dflt) = true then aB p σ L k ++ [(k : Int)] else aB p σ L k
theorem qfm {p : V.Prog} {σ : ByteArray -> Int} {L : List V.Path} : ∀ {k : Nat},(∀ j,j < k -> cE p σ (L.getD j K.paths.dflt) = false) -> aB p σ L k = []
  | 0,_=>rfl
  | k + 1,h=>by
    rw [aB,if_neg (by rw [h k (Nat.lt_succ_self k)];exact Bool.false_ne_true)]
    exact qfm (fun j hj=>h j omG)
theorem qfl {p : V.Prog} {σ : ByteArray -> Int} {L : List V.Path} {i : Nat} (hi : cE p σ (L.getD i K.paths.dflt) = true) : ∀ {k : Nat},i < k -> (∀ j,j < k -> j ≠ i -> cE p σ (L.getD j K.paths.dflt) = false) -> aB p σ L k = [(i : Int)]
  | 0,h,_=>absurd h (Nat.not_lt_zero _)
  | k + 1,h,hj=>by
    rw [aB]
    by_cases c : i = k
    . subst c
      rw [if_pos hi,qfm (fun j q=>hj j omG omG)];rfl
    . rw [if_neg (by rw [hj k (Nat.lt_succ_self k) (fun e=>c e.symm)];exact Bool.false_ne_true)]
      exact qfl hi omG (fun j q q2=>hj j omG q2)
section
variable {p : V.Prog} {s : V.Path} {l : List Int}
theorem qas {σ : ByteArray -> Int} (hc : o7 σ s = false) {j : Nat} (hj : j < (u0 p s).length) : o7 σ ((u0 p s).getD j K.paths.dflt) = false := by
  have hS := bU p s
  have n2 := hS.n2
  by_cases c2 : (u0 p s).length = 2
  . obtain ⟨c,_,_,_,e0,e1⟩ := hS.two c2
    have : j = 0 \/ j = 1 := by omega
    unfold o7 at hc ⊢
    rcases this with rfl|rfl
    . rw [e0,List.all_append,hc,Bool.false_and]
    . rw [e1,List.all_append,hc,Bool.false_and]
  . have c1 : (u0 p s).length = 1 := by omega
    obtain rfl : j = 0 := by omega
    have e0 := hS.one c1
    unfold o7 at hc ⊢
    rw [e0];exact hc
theorem qil (h : PX p s) (hl : InOk p l) (hc : o7 (j2 l) s = true) {j : Nat} (hj : j < (u0 p s).length) (hn : j ≠ iD p (j2 l) s) : o7 (j2 l) ((u0 p s).getD j K.paths.dflt) = false := by
  have hS := bU p s
  have n2 := hS.n2
  by_cases c2 : (u0 p s).length = 2
  . obtain ⟨c,hk,hw,hnot,e0,e1⟩ := hS.two c2
    have q := aU h hl hc omG
    by_cases e : iD p (j2 l) s = 0
    . have hj1 : j = 1 := by omega
      subst hj1
      have ec : uN p s = c := by
        unfold uN
        rw [e0,List.getD_eq_getElem?_getD,List.getElem?_append_right (Nat.le_refl _),Nat.sub_self];rfl
      have c1 : evT (j2 l) c = 1 := by
        unfold iD at e
        rw [ec] at e
        by_cases z : evT (j2 l) c = 1
        . exact z
        . rw [if_pos ⟨c2,z⟩] at e;cases e
      have m0 : (u0 p s).getD 0 K.paths.dflt ∈ u0 p s := rF omG
      have q0 := (h.step _ m0).q.c c (by rw [e0];exact List.mem_append_right _ (List.mem_singleton.2 rfl))
      have hg := q0.good h.i.hp hl
      have en : evT (j2 l) (s1 1 1 0 [c]).1 = 0 := by
        rw [(dH hnot).2,qce hk hw hg,c1];rfl
      unfold o7
      rw [e1,List.all_append,List.all_cons,en]
      simp
    . have q1 := q.1
      exact q.2.2 j omG
  . have c1 : (u0 p s).length = 1 := by omega
    have q := aU h hl hc omG
    omega
theorem mO {t : V.Path} {σ : ByteArray -> Int} (h : PX p t) : cE p σ t = o7 σ t := by unfold cE;rw [path_y h,Bool.true_and]
end
section
variable {p : V.Prog} {s : V.Path}
theorem wB {b : Bool} {P : Prop} (h : b = true) (h2 : b = false) : P := Bool.noConfusion (h.symm.trans h2)
theorem st_at {l : List Int} {f : Int -> Bool} (h : l.all f = true) {k : Nat} (hk : (k : Int) < l.length) : f (l.getD (k : Int).toNat K.ints.dflt) = true := by
  rw [Int.toNat_natCast,List.getD_eq_getElem?_getD,List.getElem?_eq_getElem omG]
  exact List.all_eq_true.1 h _ (List.getElem_mem _)
end
/-! ### a path that holds -/
end Vg
