/- A path's step is the machine's step, for each test for which the path holds: plain law. No condition. -/
import Derived.Test.YtfjkpndogncdcaaGreatDoorPfQ
import Derived.Test.YtfjkpndogncdcaaGreatDoorEvI
import Derived.Test.YtfjkpndogncdcaaGreatDoorEvS
import Derived.Test.YtfjkpndogncdcaaGreatDoorPfL
namespace Vg
open Go Go.Proofs
def k5 (σ : ByteArray -> Int) (s : V.Path) : V.State := ⟨s.pc, s.regs.map (evT σ), s.mem.map (evT σ), s.stack, s.inn, s.out.map (evT σ), s.code, s.steps⟩
section
variable {σ : ByteArray -> Int}
theorem ev_dflt : evT σ K.terms.dflt = 0 := by show evT σ ⟨0, 0, 0, ByteArray.empty, []⟩ = 0; rw [evT, if_pos rfl]
theorem qch {l : List V.Term} {k : Nat} : (l.map (evT σ)).getD k K.ints.dflt = evT σ (l.getD k K.terms.dflt) := by
  rw [List.getD_eq_getElem?_getD, List.getD_eq_getElem?_getD, List.getElem?_map]
  cases l[k]? with
  | none => exact ev_dflt.symm
  | some x => rfl
theorem map_set {l : List V.Term} {k : Nat} {t : V.Term} : (l.set k t).map (evT σ) = (l.map (evT σ)).set k (evT σ t) := List.map_set
theorem fD {s : V.Path} {k : Int} : l9 (k5 σ s) k = evT σ (rgT s k) := qch
theorem dN {op w n : Int} {ks : List V.Term} (h : (u0 op w n ks).2 = true) (hg : ∀ t, t ∈ ks -> v7 σ t) : evT σ (u0 op w n ks).1 = evT σ (oT op w n ks) := by
  obtain ⟨h1, h2⟩ := vG h
  rw [h2]
  refine mkT_ev h1 (fun v hv => ?_)
  rw [varsT, if_neg (sU h1)] at hv
  obtain ⟨t, ht, hv⟩ := xO hv
  exact hg t ht v hv
theorem aL {op w n : Int} {ks : List V.Term} (h : (u0 op w n ks).2 = true) (hg : ∀ t, t ∈ ks -> v7 σ t) : v7 σ (u0 op w n ks).1 := by
  obtain ⟨h1, h2⟩ := vG h
  rw [h2]
  intro v hv
  have hv := qb8 h1 hv
  rw [varsT, if_neg (sU h1)] at hv
  obtain ⟨t, ht, hv⟩ := xO hv
  exact hg t ht v hv
theorem yL {w n : Int} : v7 σ (cT w n) := fun _ hv => (oO hv).elim
theorem g1 {a : V.Term} (ha : v7 σ a) : ∀ t, t ∈ [a] -> v7 σ t := q_1 ha
theorem g2 {a b : V.Term} (ha : v7 σ a) (hb : v7 σ b) : ∀ t, t ∈ [a, b] -> v7 σ t := q_2 ha hb
theorem g3 {a b c : V.Term} (ha : v7 σ a) (hb : v7 σ b) (hc : v7 σ c) : ∀ t, t ∈ [a, b, c] -> v7 σ t := q_3 ha hb hc
theorem eN {op w : Int} {a b : V.Term} (ho : 3 <= op /\ op <= 16) (h : (u0 op w 0 [a, b]).2 = true) (ha : v7 σ a) (hb : v7 σ b) : evT σ (u0 op w 0 [a, b]).1 = r3 op a.w (evT σ a) (evT σ b) := by
  rw [dN h (g2 ha hb)]
  exact vB (t := oT op w 0 [a, b]) ho
structure GW (σ : ByteArray -> Int) (w : Int) (t : V.Term) : Prop where
  ok : okT t = true
  w : t.w = w
  g : v7 σ t
theorem GW.wd {w : Int} {t : V.Term} (h : GW σ w t) : wordP w (evT σ t) = true := by rw [<- h.w]; exact pJ h.ok h.g
theorem eT {b : Bool} : o8 b = 1 ↔ b = true := by cases b <;> decide
variable {p : V.Prog}
theorem tY {x : V.Term} (hp : f4 p = true) (hx : GW σ p.w x) (h : (gE p x).2 = true) : evT σ (gE p x).1 = o8 (decide (evT σ x = 0)) /\ v7 σ (gE p x).1 := by
  have h0 := zero_word (progP_w hp)
  refine ⟨?_, aL h (g2 yL hx.g)⟩
  unfold gE at h ⊢
  rw [eN (by decide) h yL hx.g, eF, b14 h0 hx.wd]
  congr 1
  by_cases c : evT σ x = 0
  . rw [c]; rfl
  . rw [decide_eq_false c]; exact beq_eq_false_iff_ne.2 (fun e => c e.symm)
theorem less_ev {x : V.Term} (hp : f4 p = true) (hx : GW σ p.w x) (h : (hC p x).2 = true) : evT σ (hC p x).1 = o8 (decide (evT σ x < p.mem)) /\ v7 σ (hC p x).1 := by
  have h0 := (s6 hp).2.2.1
  refine ⟨?_, aL h (g2 hx.g yL)⟩
  unfold hC at h ⊢
  rw [eN (by decide) h hx.g yL, eF, hx.w, b15 hx.wd h0]
theorem qbu {c : V.Term} {b : Bool} (h : (u0 1 1 0 [c]).2 = true) (hw : c.w = 1) (hg : v7 σ c) (hb : evT σ c = o8 b) : evT σ (u0 1 1 0 [c]).1 = o8 (!b) := by
  rw [dN h (g1 hg)]
  have e : evT σ (oT 1 1 0 [c]) = p7 1 c.w (evT σ c) := iI (t := oT 1 1 0 [c]) (.inl rfl)
  rw [e, hw, hb]
  cases b <;> decide
theorem qgs {x : V.Term} (hp : f4 p = true) (hx : GW σ p.w x) (h : (r9 p x).2 = true) : evT σ (r9 p x).1 = o8 (decide (p.mem <= evT σ x)) /\ v7 σ (r9 p x).1 := by
  unfold r9 at h ⊢
  by_cases c : (hC p x).2 = true
  . rw [if_pos c] at h ⊢
    obtain ⟨e, g⟩ := less_ev hp hx c
    refine ⟨?_, aL h (g1 g)⟩
    rw [qbu h (dB c).2 g e]
    congr 1
    by_cases q : evT σ x < p.mem
    . rw [decide_eq_true q, decide_eq_false omG]; rfl
    . rw [decide_eq_false q, decide_eq_true omG]; rfl
  . rw [if_neg c] at h; cases h
theorem qfw {k : Int} {x a b : V.Term} (hk : wordP p.w k = true) (hx : GW σ p.w x) (ha : v7 σ a) (hb : v7 σ b) (h : (n7 p k x a b).2 = true) :
    evT σ (n7 p k x a b).1 = (if evT σ x = k then evT σ a else evT σ b) /\ v7 σ (n7 p k x a b).1 := by
  unfold n7 at h ⊢
  by_cases c : (u0 14 1 0 [cT p.w k, x]).2 = true
  . rw [if_pos c] at h ⊢
    have g := aL c (g2 yL hx.g)
    refine ⟨?_, aL h (g3 g ha hb)⟩
    rw [dN h (g3 g ha hb)]
    have e : evT σ (oT 17 p.w 0 [(u0 14 1 0 [cT p.w k, x]).1, a, b]) = if evT σ (u0 14 1 0 [cT p.w k, x]).1 = 1 then evT σ a else evT σ b := fG (t := oT 17 p.w 0 [(u0 14 1 0 [cT p.w k, x]).1, a, b]) rfl
    rw [e, eN (by decide) c yL hx.g, eF, b14 hk hx.wd]
    by_cases q : evT σ x = k
    . rw [q, beq_self_eq_true, if_pos (show o8 true = 1 from rfl), if_pos rfl]
    . rw [beq_eq_false_iff_ne.2 (fun e => q e.symm), if_neg q]; rfl
  . rw [if_neg c] at h; cases h
theorem qco {mm : List V.Term} {x : V.Term} (hp : f4 p = true) (hm : ∀ t, t ∈ mm -> GW σ p.w t) (hl : (mm.length : Int) = p.mem) (hx : GW σ p.w x) : ∀ j : Nat, (j : Int) <= p.mem - 1 -> (k6 p mm x j).2 = true ->
    (p.mem - 1 - j <= evT σ x -> evT σ x < p.mem -> evT σ (k6 p mm x j).1 = evT σ (kAt mm (evT σ x).toNat)) /\ v7 σ (k6 p mm x j).1
  | 0, hj, _ => by
    have h1 := (s6 hp).1
    refine ⟨fun q1 q2 => ?_, (sD hm omG).g⟩
    have e : (evT σ x).toNat = p.mem.toNat - 1 := by omega
    rw [e]; rfl
  | j + 1, hj, h => by
    have h1 := (s6 hp).1
    rw [k6] at h ⊢
    by_cases c : (k6 p mm x j).2 = true
    . rw [if_pos c] at h ⊢
      have ih := qco hp hm hl hx j omG c
      obtain ⟨e, g⟩ := qfw (sQ hp omG omG) hx (sD hm omG).g ih.2 h
      refine ⟨fun q1 q2 => ?_, g⟩
      rw [e]
      by_cases q : evT σ x = p.mem - 2 - j
      . rw [if_pos q]
        have e2 : (evT σ x).toNat = p.mem.toNat - 2 - j := by omega
        rw [e2]
      . rw [if_neg q]
        exact ih.1 omG q2
    . rw [if_neg c] at h; cases h
theorem qkh {mm : List V.Term} {x : V.Term} (hp : f4 p = true) (hm : ∀ t, t ∈ mm -> GW σ p.w t) (hl : (mm.length : Int) = p.mem) (hx : GW σ p.w x) (hi : evT σ x < p.mem) (h : (sB p mm x).2 = true) :
    evT σ (sB p mm x).1 = evT σ (kAt mm (evT σ x).toNat) := by
  unfold sB at h ⊢
  by_cases q : x.op = 0
  . rw [if_pos q, pA q]
  . rw [if_neg q] at h ⊢
    have h1 := (s6 hp).1
    have h0 := (p4 hx.wd).2.1
    exact (qco hp hm hl hx _ omG h).1 omG hi
theorem qhk {mm : List V.Term} {x t : V.Term} (hp : f4 p = true) (hm : ∀ t, t ∈ mm -> GW σ p.w t) (hl : (mm.length : Int) = p.mem) (hx : GW σ p.w x) (ht : v7 σ t) (h : (aB p mm x t).2 = true) :
    (aB p mm x t).1.map (evT σ) = (mm.map (evT σ)).set (evT σ x).toNat (evT σ t) := by
  unfold aB at h ⊢
  by_cases q : x.op = 0
  . rw [if_pos q, pA q]; exact map_set
  . rw [if_neg q] at h ⊢
    by_cases z : jA p mm x t p.mem.toNat = true
    . rw [if_pos z]
      have h0 := (p4 hx.wd).2.1
      apply List.ext_getElem?
      intro j
      rw [List.getElem?_set]
      show ((bB p mm x t p.mem.toNat).map (evT σ))[j]? = _
      unfold bB
      rw [List.map_map, List.getElem?_map, List.length_map]
      by_cases hj : j < p.mem.toNat
      . rw [List.getElem?_range hj]
        have e := (qfw (sQ hp omG omG) hx ht (sD hm (k := j) omG).g (iP _ z j hj)).1
        show some (evT σ (n7 p (j : Int) x t (kAt mm j)).1) = _
        rw [e]
        by_cases c : (evT σ x).toNat = j
        . rw [if_pos omG, if_pos c, if_pos omG]
        . rw [if_neg omG, if_neg c, List.getElem?_map, List.getElem?_eq_getElem omG]
          rw [kAt, List.getD_eq_getElem?_getD, List.getElem?_eq_getElem omG]; rfl
      . rw [List.getElem?_eq_none (by rw [List.length_range]; omega)]
        by_cases c : (evT σ x).toNat = j
        . rw [if_pos c, if_neg omG]; rfl
        . rw [if_neg c, List.getElem?_eq_none (by rw [List.length_map]; omega)]; rfl
    . rw [if_neg z] at h; cases h
theorem oper_ev {op : Int} {a b : V.Term} (ho : 3 <= op /\ op <= 16) (ha : GW σ p.w a) (hb : GW σ p.w b) (h : (s9 p op a b).2 = true) : evT σ (s9 p op a b).1 = r3 op p.w (evT σ a) (evT σ b) := by
  unfold s9 at h ⊢
  by_cases c : (u0 op (a8 op p.w) 0 [a, b]).2 = false \/ op < 14
  . rw [if_pos c] at h ⊢
    rw [eN ho h ha.g hb.g, ha.w]
  . rw [if_neg c] at h ⊢
    have c' : (u0 op (a8 op p.w) 0 [a, b]).2 = true := by
      cases e : (u0 op (a8 op p.w) 0 [a, b]).2 with
      | true => rfl
      | false => exact absurd (.inl e) c
    have c3 : 14 <= op := by omega
    have g := aL c' (g2 ha.g hb.g)
    rw [dN h (g1 g)]
    have e : evT σ (oT 20 p.w 0 [(u0 op (a8 op p.w) 0 [a, b]).1]) = d9 (u0 op (a8 op p.w) 0 [a, b]).1.w (evT σ (u0 op (a8 op p.w) 0 [a, b]).1) p.w ((20 : Int) == 21) := qJ (t := oT 20 p.w 0 [(u0 op (a8 op p.w) 0 [a, b]).1]) (.inl rfl)
    have hw := dB c'
    have hf := nJ (vG h).1 (.inl rfl)
    have hf2 : (u0 op (a8 op p.w) 0 [a, b]).1.w <= p.w := hf
    have hwd := pJ hw.1 g
    have hpw := b6.1 (p4 ha.wd).1
    rw [e, show ((20 : Int) == 21) = false from rfl, gK hwd hf2 hpw.2, eN ho c' ha.g hb.g, ha.w]
end
/-! ### the step -/
def aC (p : V.Prog) (S : V.State) (i : V.Ins) : Bool :=
  if i.op = 10 \/ i.op = 13 then decide (l9 S i.a = 0)
  else if i.op = 3 then decide (l9 S i.b = 0)
  else if i.op = 7 then decide (p.mem <= l9 S i.b)
  else decide (p.mem <= l9 S i.a)
section
variable {σ : ByteArray -> Int} {p : V.Prog} {s : V.Path} {i : V.Ins} {l : List Int}
theorem ins_3c {i : V.Ins} {w n : Int} (h : r5 i w n = true) (ho : i.op = 3) : 3 <= i.c /\ i.c <= 16 := by
  unfold r5 at h
  rw [if_neg omG, if_neg omG, if_pos ho] at h
  simp only [Bool.and_eq_true, b6] at h
  exact h.2
theorem Qt.gw {w : Int} {t : V.Term} (h : Qt p w t) (hp : f4 p = true) (hl : InOk p l) : GW (r0 l) w t := ⟨h.ok, h.w, h.good hp hl⟩
theorem xX (hs : PI p s) (hq : AllQ p (Qt p) s) (hl : InOk p l) (hi : r5 i p.w p.code.length = true) (ha : m5 i = true) (h : (f2 p s i).2 = true) :
    evT (r0 l) (f2 p s i).1 = o8 (aC p (k5 (r0 l) s) i) /\ v7 (r0 l) (f2 p s i).1 := by
  have hp := hs.hp
  have hia := fun q => p9 (op := i.op) (a := i.a) (b := i.b) (d := i.c) hi q
  have hib := fun q => e9 (op := i.op) (a := i.a) (b := i.b) (d := i.c) hi q
  unfold m5 at ha
  have ha := of_decide_eq_true ha
  unfold f2 at h ⊢
  unfold aC
  by_cases c1 : i.op = 10 \/ i.op = 13
  . rw [if_pos c1] at h ⊢
    rw [if_pos c1, fD]
    exact tY hp ((hq.rg hs (hia omG)).gw hp hl) h
  rw [if_neg c1] at h ⊢
  rw [if_neg c1]
  by_cases c2 : i.op = 3
  . rw [if_pos c2] at h ⊢
    rw [if_pos c2, fD]
    rw [if_pos omG] at h ⊢
    exact tY hp ((hq.rg hs (hib omG)).gw hp hl) h
  rw [if_neg c2] at h ⊢
  rw [if_neg c2]
  by_cases c3 : i.op = 7
  . rw [if_pos c3] at h ⊢
    rw [if_pos c3, fD]
    exact qgs hp ((hq.rg hs (hib omG)).gw hp hl) h
  rw [if_neg c3] at h ⊢
  rw [if_neg c3, fD]
  rw [if_pos omG] at h ⊢
  exact qgs hp ((hq.rg hs (hia omG)).gw hp hl) h
theorem qme (hs : PI p s) (hq : AllQ p (Qt p) s) (hl : InOk p l) (hi : r5 i p.w p.code.length = true) (hk : u4 p s i = 0) (hb : m5 i = true -> aC p (k5 (r0 l) s) i = false) (h : (d6 p s i).2 = true) :
    k5 (r0 l) (d6 p s i).1 = gD p (k5 (r0 l) s) i l := by
  have hp := hs.hp
  have hm := s6 hp
  have hia := fun q => p9 (op := i.op) (a := i.a) (b := i.b) (d := i.c) hi q
  have hib := fun q => e9 (op := i.op) (a := i.a) (b := i.b) (d := i.c) hi q
  have hM : ∀ t, t ∈ s.mem -> GW (r0 l) p.w t := fun t ht => (hq.m t ht).gw hp hl
  have rw' : ∀ {k : Int}, 0 <= k /\ k < 4 -> GW (r0 l) p.w (rgT s k) := fun hk => (hq.rg hs hk).gw hp hl
  unfold d6 at h ⊢
  unfold gD
  by_cases c1 : i.op = 1
  . rw [if_pos c1, if_pos c1]
    simp only [k5, map_set, eF]
  rw [if_neg c1] at h ⊢
  rw [if_neg c1]
  by_cases c2 : i.op = 2
  . rw [if_pos c2, if_pos c2, fD]
    simp only [k5, map_set]
  rw [if_neg c2] at h ⊢
  rw [if_neg c2]
  by_cases c3 : i.op = 3
  . rw [if_pos c3] at h ⊢
    rw [if_pos c3, fD, fD, <- oper_ev (ins_3c hi c3) (rw' (hia omG)) (rw' (hib omG)) h]
    simp only [k5, map_set]
  rw [if_neg c3] at h ⊢
  rw [if_neg c3]
  by_cases c4 : i.op = 4
  . rw [if_pos c4] at h ⊢
    have g := rw' (hia omG)
    have e : evT (r0 l) (u0 1 p.w 0 [rgT s i.a]).1 = p7 1 p.w (evT (r0 l) (rgT s i.a)) := by
      rw [dN h (g1 g.g)]
      have e2 : evT (r0 l) (oT 1 p.w 0 [rgT s i.a]) = p7 1 (rgT s i.a).w (evT (r0 l) (rgT s i.a)) := iI (t := oT 1 p.w 0 [rgT s i.a]) (.inl rfl)
      rw [e2, g.w]
    rw [if_pos c4, fD, <- e]
    simp only [k5, map_set]
  rw [if_neg c4] at h ⊢
  rw [if_neg c4]
  by_cases c5 : i.op = 5
  . have hlt : s.inn < p.inn := by
      unfold u4 at hk
      by_cases q : p.inn <= s.inn
      . rw [if_pos ⟨c5, q⟩] at hk; cases hk
      . omega
    have e : evT (r0 l) (varT p.w s.inn) = l.getD s.inn.toNat K.ints.dflt := by
      rw [wB, if_neg (show ¬ (22 : Int) = 0 by decide), if_pos rfl]
      exact lT hs.i0 omG
    rw [if_pos c5, if_pos c5]
    simp only [k5, map_set]
    rw [<- e]
  rw [if_neg c5] at h ⊢
  rw [if_neg c5]
  by_cases c6 : i.op = 6
  . rw [if_pos c6, if_pos c6, fD]
    simp only [k5, List.map_append, List.map_cons, List.map_nil]
  rw [if_neg c6] at h ⊢
  rw [if_neg c6]
  by_cases c7 : i.op = 7
  . rw [if_pos c7] at h ⊢
    have hb7 := hb (by unfold m5; rw [c7]; exact decide_eq_true omG)
    unfold aC at hb7
    rw [if_neg omG, if_neg omG, if_pos c7, fD] at hb7
    have hb7 := of_decide_eq_false hb7
    rw [if_pos c7, fD]
    have e := qkh hp hM hs.ml (rw' (hib omG)) omG h
    simp only [k5, map_set, qch, e]
  rw [if_neg c7] at h ⊢
  rw [if_neg c7]
  by_cases c8 : i.op = 8
  . rw [if_pos c8] at h ⊢
    rw [if_pos c8, fD, fD]
    have e := qhk hp hM hs.ml (rw' (hia omG)) (rw' (hib omG)).g h
    simp only [k5, e]
  rw [if_neg c8] at h ⊢
  rw [if_neg c8]
  by_cases c9 : i.op = 9
  . rw [if_pos c9, if_pos c9]; rfl
  rw [if_neg c9] at h ⊢
  rw [if_neg c9]
  by_cases c10 : i.op = 10
  . have hb10 := hb (by unfold m5; rw [c10]; exact decide_eq_true omG)
    unfold aC at hb10
    rw [if_pos omG] at hb10
    have hb10 := of_decide_eq_false hb10
    rw [if_neg omG, if_neg omG, if_neg omG, if_pos c10, if_neg hb10]; rfl
  rw [if_neg c10]
  by_cases c11 : i.op = 11
  . rw [if_pos c11, if_pos c11]; rfl
  rw [if_neg c11] at h ⊢
  rw [if_neg c11]
  by_cases c12 : i.op = 12
  . rw [if_pos c12, if_pos c12]; rfl
  rw [if_neg c12] at h ⊢
  rw [if_neg c12]
  by_cases c14 : i.op = 14
  . rw [if_pos c14, if_pos c14]; rfl
  rw [if_neg c14, if_neg c14]; rfl
theorem why_0 (hk : u4 p s i = 0) (hb : m5 i = true -> aC p (k5 (r0 l) s) i = false) : u6 p (k5 (r0 l) s) i = 0 := by
  have hlen : (k5 (r0 l) s).out.length = s.out.length := List.length_map _
  unfold u4 at hk
  unfold u6
  by_cases c5 : i.op = 5
  . rw [if_pos c5]
    by_cases q : p.inn <= s.inn
    . rw [if_pos ⟨c5, q⟩] at hk; cases hk
    . exact if_neg q
  rw [if_neg (fun q => c5 q.1)] at hk
  rw [if_neg c5]
  by_cases c6 : i.op = 6
  . rw [if_pos c6, hlen]
    by_cases q : 6 <= (s.out.length : Int)
    . rw [if_pos ⟨c6, q⟩] at hk; cases hk
    . exact if_neg q
  rw [if_neg (fun q => c6 q.1)] at hk
  rw [if_neg c6]
  by_cases c7 : i.op = 7
  . rw [if_pos c7]
    have hb7 := hb (by unfold m5; rw [c7]; exact decide_eq_true omG)
    unfold aC at hb7
    rw [if_neg omG, if_neg omG, if_pos c7] at hb7
    exact if_neg (of_decide_eq_false hb7)
  rw [if_neg c7]
  by_cases c8 : i.op = 8
  . rw [if_pos c8]
    have hb8 := hb (by unfold m5; rw [c8]; exact decide_eq_true omG)
    unfold aC at hb8
    rw [if_neg omG, if_neg omG, if_neg c7] at hb8
    exact if_neg (of_decide_eq_false hb8)
  rw [if_neg c8]
  by_cases c3 : i.op = 3
  . rw [if_pos c3]
    by_cases q : i.c = 6 \/ i.c = 7
    . have hb3 := hb (by unfold m5; exact decide_eq_true omG)
      unfold aC at hb3
      rw [if_neg omG, if_pos c3] at hb3
      exact if_neg (fun z => of_decide_eq_false hb3 z.2)
    . exact if_neg (fun z => q z.1)
  rw [if_neg c3]
  by_cases c11 : i.op = 11
  . rw [if_pos c11]
    by_cases q : 3 <= (s.stack.length : Int)
    . rw [if_pos ⟨c11, q⟩] at hk; cases hk
    . exact if_neg q
  rw [if_neg (fun q => c11 q.1)] at hk
  rw [if_neg c11]
  by_cases c12 : i.op = 12
  . rw [if_pos c12]
    by_cases q : (s.stack.length : Int) = 0
    . rw [if_pos ⟨c12, q⟩] at hk; cases hk
    . exact if_neg q
  rw [if_neg c12]
  by_cases c13 : i.op = 13
  . rw [if_pos c13]
    have hb13 := hb (by unfold m5; rw [c13]; exact decide_eq_true omG)
    unfold aC at hb13
    rw [if_pos omG] at hb13
    exact if_neg (of_decide_eq_false hb13)
  exact if_neg c13
theorem why_s (hk : u4 p s i ≠ 0) : u6 p (k5 (r0 l) s) i = u4 p s i := by
  have hlen : (k5 (r0 l) s).out.length = s.out.length := List.length_map _
  unfold u4 at hk ⊢
  unfold u6
  by_cases c5 : i.op = 5 /\ p.inn <= s.inn
  . rw [if_pos c5, if_pos c5.1]; exact if_pos c5.2
  rw [if_neg c5] at hk ⊢
  by_cases c6 : i.op = 6 /\ 6 <= (s.out.length : Int)
  . rw [if_pos c6, if_neg omG, if_pos c6.1, hlen, if_pos c6.2]
  rw [if_neg c6] at hk ⊢
  by_cases c11 : i.op = 11 /\ 3 <= (s.stack.length : Int)
  . rw [if_pos c11, if_neg omG, if_neg omG, if_neg omG, if_neg omG, if_neg omG, if_pos c11.1]; exact if_pos c11.2
  rw [if_neg c11] at hk ⊢
  by_cases c12 : i.op = 12 /\ (s.stack.length : Int) = 0
  . rw [if_pos c12, if_neg omG, if_neg omG, if_neg omG, if_neg omG, if_neg omG, if_neg omG, if_pos c12.1]; exact if_pos c12.2
  rw [if_neg c12] at hk; exact absurd rfl hk
theorem qb1 (ha : m5 i = true) (hb : aC p (k5 (r0 l) s) i = true) :
    k5 (r0 l) (y9 s i) = if u6 p (k5 (r0 l) s) i = 0 then gD p (k5 (r0 l) s) i l else { k5 (r0 l) s with code := u6 p (k5 (r0 l) s) i } := by
  unfold m5 at ha
  have ha := of_decide_eq_true ha
  unfold aC at hb
  unfold y9
  by_cases c10 : i.op = 10
  . rw [if_pos c10]
    rw [if_pos (.inl c10)] at hb
    have hb := of_decide_eq_true hb
    have e : u6 p (k5 (r0 l) s) i = 0 := by
      unfold u6
      rw [if_neg omG, if_neg omG, if_neg omG, if_neg omG, if_neg omG, if_neg omG, if_neg omG, if_neg omG]
    rw [if_pos e]
    unfold gD
    rw [if_neg omG, if_neg omG, if_neg omG, if_neg omG, if_neg omG, if_neg omG, if_neg omG, if_neg omG, if_neg omG, if_pos c10, if_pos hb]; rfl
  rw [if_neg c10]
  by_cases c13 : i.op = 13
  . rw [if_pos c13]
    rw [if_pos (.inr c13)] at hb
    have hb := of_decide_eq_true hb
    have e : u6 p (k5 (r0 l) s) i = 8 := by
      unfold u6
      rw [if_neg omG, if_neg omG, if_neg omG, if_neg omG, if_neg omG, if_neg omG, if_neg omG, if_pos c13, if_pos hb]
    rw [e, if_neg (by decide)]; rfl
  rw [if_neg c13]
  rw [if_neg omG] at hb
  by_cases c3 : i.op = 3
  . rw [if_pos c3]
    rw [if_pos c3] at hb
    have hb := of_decide_eq_true hb
    have e : u6 p (k5 (r0 l) s) i = 6 := by
      unfold u6
      rw [if_neg omG, if_neg omG, if_neg omG, if_neg omG, if_pos c3, if_pos ⟨by omega, hb⟩]
    rw [e, if_neg (by decide)]; rfl
  rw [if_neg c3]
  rw [if_neg c3] at hb
  have e : u6 p (k5 (r0 l) s) i = 5 := by
    unfold u6
    rw [if_neg omG, if_neg omG]
    by_cases c7 : i.op = 7
    . rw [if_pos c7] at hb
      rw [if_pos c7, if_pos (of_decide_eq_true hb)]
    . rw [if_neg c7] at hb
      rw [if_neg c7, if_pos omG, if_pos (of_decide_eq_true hb)]
  rw [e, if_neg (by decide)]; rfl
theorem qhm (h : PX p s) (hl : InOk p l) {t : V.Path} (ht : t ∈ z1 p s) (hc : d7 (r0 l) t = true) (h9 : t.code ≠ 9) : k5 (r0 l) t = gB p (k5 (r0 l) s) l := by
  unfold z1 at ht
  unfold gB
  by_cases c1 : s.code ≠ 0 \/ 400 <= s.steps
  . rw [if_pos c1] at ht; cases ht
  rw [if_neg c1] at ht
  have n1 : s.code = 0 /\ s.steps < 400 := by omega
  rw [if_pos (show (k5 (r0 l) s).code = 0 /\ (k5 (r0 l) s).steps < 400 from n1)]
  by_cases c2 : s.pc = (p.code.length : Int)
  . rw [if_pos c2, List.mem_singleton] at ht
    subst ht
    rw [if_pos (show (k5 (r0 l) s).pc = (p.code.length : Int) from c2)]; rfl
  rw [if_neg c2] at ht
  rw [if_neg (show ¬ (k5 (r0 l) s).pc = (p.code.length : Int) from c2)]
  have hI := h.i
  have hQ := h.q
  have hpc : s.pc < p.code.length := by have := hI.pc1; omega
  have hins := tM hI.hp hI.pc0 hpc
  have hI2 : PI p { s with steps := s.steps + 1 } := ⟨hI.hp, hI.pc0, hI.pc1, hI.rl, hI.ro, hI.ml, hI.mo, hI.sl, hI.so, hI.i0, hI.i1, hI.ol, hI.oo, (by have := hI.st0; show 0 <= s.steps + 1; omega), (by show s.steps + 1 <= 400; omega), hI.cl, hI.co, hI.tl⟩
  have hQ2 : AllQ p (Qt p) { s with steps := s.steps + 1 } := ⟨hQ.r, hQ.m, hQ.o, hQ.c⟩
  have eS : ({ k5 (r0 l) s with steps := (k5 (r0 l) s).steps + 1 } : V.State) = k5 (r0 l) { s with steps := s.steps + 1 } := rfl
  have eI : p.code.getD (k5 (r0 l) s).pc.toNat K.inss.dflt = p.code.getD s.pc.toNat K.inss.dflt := rfl
  rw [eS, eI]
  generalize hs' : ({ s with steps := s.steps + 1 } : V.Path) = s' at *
  generalize p.code.getD s.pc.toNat K.inss.dflt = i at *
  have fin : ∀ x : V.State, x = (if u6 p (k5 (r0 l) s') i = 0 then gD p (k5 (r0 l) s') i l else { k5 (r0 l) s' with code := u6 p (k5 (r0 l) s') i }) ->
      x = (if u6 p (k5 (r0 l) s') i = 0 then gD p (k5 (r0 l) s') i l else { k5 (r0 l) s with steps := (k5 (r0 l) s).steps + 1, code := u6 p (k5 (r0 l) s') i }) := by
    intro x hx
    rw [hx, <- hs']; rfl
  refine fin _ ?_
  by_cases c3 : u4 p s' i ≠ 0
  . rw [if_pos c3, List.mem_singleton] at ht
    rw [why_s c3, if_neg c3, ht]
    subst hs'; rfl
  rw [if_neg c3] at ht
  have c3 : u4 p s' i = 0 := by simpa using c3
  have doF : (d6 p s' i).2 = true -> (m5 i = true -> aC p (k5 (r0 l) s') i = false) -> k5 (r0 l) (d6 p s' i).1 = if u6 p (k5 (r0 l) s') i = 0 then gD p (k5 (r0 l) s') i l else { k5 (r0 l) s' with code := u6 p (k5 (r0 l) s') i } := by
    intro hf hb
    rw [if_pos (why_0 c3 hb), qme hI2 hQ2 hl hins c3 hb hf]
  unfold g9 at ht
  by_cases d1 : (f2 p s' i).2 = false
  . rw [if_pos d1, List.mem_singleton] at ht
    rw [ht] at h9; exact absurd rfl h9
  rw [if_neg d1] at ht
  have d1 : (f2 p s' i).2 = true := by simpa using d1
  by_cases d2 : m5 i = true /\ (f2 p s' i).1.op = 0 /\ (f2 p s' i).1.n = 1
  . rw [if_pos d2, List.mem_singleton] at ht
    have e := (xX hI2 hQ2 hl hins d2.1 d1).1
    rw [pA d2.2.1, d2.2.2] at e
    rw [ht]
    exact qb1 d2.1 (eT.1 e.symm)
  rw [if_neg d2] at ht
  by_cases d3 : (d6 p s' i).2 = false
  . rw [if_pos d3, List.mem_singleton] at ht
    rw [ht] at h9; exact absurd rfl h9
  rw [if_neg d3] at ht
  have d3 : (d6 p s' i).2 = true := by simpa using d3
  by_cases d4 : m5 i = false \/ (f2 p s' i).1.op = 0
  . rw [if_pos d4, List.mem_singleton] at ht
    rw [ht]
    refine doF d3 (fun ha => ?_)
    have o : (f2 p s' i).1.op = 0 := by
      rcases d4 with q | q
      . rw [ha] at q; cases q
      . exact q
    have e := (xX hI2 hQ2 hl hins ha d1).1
    rw [pA o] at e
    cases q : aC p (k5 (r0 l) s') i with
    | false => rfl
    | true => rw [q] at e; exact absurd ⟨ha, o, e⟩ d2
  rw [if_neg d4] at ht
  have ha : m5 i = true := by
    cases q : m5 i with
    | true => rfl
    | false => exact absurd (.inl q) d4
  by_cases d5 : (u0 1 1 0 [(f2 p s' i).1]).2 = false \/ 60 <= s'.cond.length \/ 60 <= s'.turns.length
  . rw [if_pos d5, List.mem_singleton] at ht
    rw [ht] at h9; exact absurd rfl h9
  rw [if_neg d5] at ht
  have d5 : (u0 1 1 0 [(f2 p s' i).1]).2 = true := by
    cases q : (u0 1 1 0 [(f2 p s' i).1]).2 with
    | true => rfl
    | false => exact absurd (.inl q) d5
  obtain ⟨e, g⟩ := xX hI2 hQ2 hl hins ha d1
  simp only [List.mem_cons, List.not_mem_nil, or_false] at ht
  rcases ht with rfl | rfl
  . have ec : evT (r0 l) (f2 p s' i).1 = 1 := by
      unfold d7 at hc
      rw [List.all_append, Bool.and_eq_true] at hc
      simpa using hc.2
    rw [e] at ec
    exact qb1 ha (eT.1 ec)
  . have ec : evT (r0 l) (u0 1 1 0 [(f2 p s' i).1]).1 = 1 := by
      unfold d7 at hc
      rw [List.all_append, Bool.and_eq_true] at hc
      simpa using hc.2
    have hw : (f2 p s' i).1.w = 1 := (cF (vG d5).1 (.inl rfl))
    rw [qbu d5 hw g e] at ec
    have eb := eT.1 ec
    refine doF d3 (fun _ => ?_)
    cases q : aC p (k5 (r0 l) s') i with
    | false => rfl
    | true => rw [q] at eb; cases eb
end
noncomputable def sA (p : V.Prog) (σ : ByteArray -> Int) (L : List V.Path) : Nat -> List Int
  | 0 => []
  | k + 1 => if k8 p σ (L.getD k K.paths.dflt) = true then sA p σ L k ++ [(k : Int)] else sA p σ L k
theorem zW {p : V.Prog} {σ : ByteArray -> Int} {L : List V.Path} : ∀ {k : Nat}, (∀ j, j < k -> k8 p σ (L.getD j K.paths.dflt) = false) -> sA p σ L k = []
  | 0, _ => rfl
  | k + 1, h => by
    rw [sA, if_neg (by rw [h k (Nat.lt_succ_self k)]; exact Bool.false_ne_true)]
    exact zW (fun j hj => h j omG)
theorem qez {p : V.Prog} {σ : ByteArray -> Int} {L : List V.Path} {i : Nat} (hi : k8 p σ (L.getD i K.paths.dflt) = true) : ∀ {k : Nat}, i < k -> (∀ j, j < k -> j ≠ i -> k8 p σ (L.getD j K.paths.dflt) = false) -> sA p σ L k = [(i : Int)]
  | 0, h, _ => absurd h (Nat.not_lt_zero _)
  | k + 1, h, hj => by
    rw [sA]
    by_cases c : i = k
    . subst c
      rw [if_pos hi, zW (fun j q => hj j omG omG)]; rfl
    . rw [if_neg (by rw [hj k (Nat.lt_succ_self k) (fun e => c e.symm)]; exact Bool.false_ne_true)]
      exact qez hi omG (fun j q q2 => hj j omG q2)
section
variable {p : V.Prog} {s : V.Path} {l : List Int}
theorem qhp {σ : ByteArray -> Int} (hc : d7 σ s = false) {j : Nat} (hj : j < (z1 p s).length) : d7 σ ((z1 p s).getD j K.paths.dflt) = false := by
  have hS := jT p s
  have n2 := hS.n2
  by_cases c2 : (z1 p s).length = 2
  . obtain ⟨c, _, _, _, e0, e1⟩ := hS.two c2
    have : j = 0 \/ j = 1 := by omega
    unfold d7 at hc ⊢
    rcases this with rfl | rfl
    . rw [e0, List.all_append, hc, Bool.false_and]
    . rw [e1, List.all_append, hc, Bool.false_and]
  . have c1 : (z1 p s).length = 1 := by omega
    obtain rfl : j = 0 := by omega
    have e0 := hS.one c1
    unfold d7 at hc ⊢
    rw [e0]; exact hc
theorem qhn (h : PX p s) (hl : InOk p l) (hc : d7 (r0 l) s = true) {j : Nat} (hj : j < (z1 p s).length) (hn : j ≠ oB p (r0 l) s) : d7 (r0 l) ((z1 p s).getD j K.paths.dflt) = false := by
  have hS := jT p s
  have n2 := hS.n2
  by_cases c2 : (z1 p s).length = 2
  . obtain ⟨c, hk, hw, hnot, e0, e1⟩ := hS.two c2
    have q := qD h hl hc omG
    by_cases e : oB p (r0 l) s = 0
    . have hj1 : j = 1 := by omega
      subst hj1
      have ec : aN p s = c := by
        unfold aN
        rw [e0, List.getD_eq_getElem?_getD, List.getElem?_append_right (Nat.le_refl _), Nat.sub_self]; rfl
      have c1 : evT (r0 l) c = 1 := by
        unfold oB at e
        rw [ec] at e
        by_cases z : evT (r0 l) c = 1
        . exact z
        . rw [if_pos ⟨c2, z⟩] at e; cases e
      have m0 : (z1 p s).getD 0 K.paths.dflt ∈ z1 p s := dG omG
      have q0 := (h.step _ m0).q.c c (by rw [e0]; exact List.mem_append_right _ (List.mem_singleton.2 rfl))
      have hg := q0.good h.i.hp hl
      have en : evT (r0 l) (u0 1 1 0 [c]).1 = 0 := by
        rw [(vG hnot).2, qbv hk hw hg, c1]; rfl
      unfold d7
      rw [e1, List.all_append, List.all_cons, en]
      simp
    . have q1 := q.1
      exact q.2.2 j omG
  . have c1 : (z1 p s).length = 1 := by omega
    have q := qD h hl hc omG
    omega
theorem yG {t : V.Path} {σ : ByteArray -> Int} (h : PX p t) : k8 p σ t = d7 σ t := by unfold k8; rw [qbl h, Bool.true_and]
theorem qhr (h : PX p s) (hl : InOk p l) (hc : d7 (r0 l) s = true) (hn : (z1 p s).length ≠ 0) : sA p (r0 l) (z1 p s) (z1 p s).length = [(oB p (r0 l) s : Int)] := by
  have q := qD h hl hc hn
  refine qez ?_ q.1 (fun j hj hjn => ?_)
  . rw [yG (h.step _ (dG q.1))]; exact q.2.1
  . rw [yG (h.step _ (dG hj))]; exact qhn h hl hc hj hjn
theorem qhq (h : PX p s) (hc : d7 (r0 l) s = false \/ (z1 p s).length = 0) : sA p (r0 l) (z1 p s) (z1 p s).length = [] := by
  refine zW (fun j hj => ?_)
  rcases hc with hc | hc
  . rw [yG (h.step _ (dG hj))]; exact qhp hc hj
  . omega
theorem qho (h : PX p s) (hl : InOk p l) (hc : d7 (r0 l) s = true) (hn : (z1 p s).length ≠ 0) (h9 : (bC p (r0 l) s).code ≠ 9) : k5 (r0 l) (bC p (r0 l) s) = gB p (k5 (r0 l) s) l := by
  have q := qD h hl hc hn
  exact qhm h hl (dG q.1) q.2.1 h9
end
set_option maxRecDepth 100000
set_option maxHeartbeats 40000000
section
variable {p : V.Prog} {s : V.Path}
theorem l8 {b : Bool} {P : Prop} (h : b = true) (h2 : b = false) : P := Bool.noConfusion (h.symm.trans h2)
theorem lP {l : List Int} {f : Int -> Bool} (h : l.all f = true) {k : Nat} (hk : (k : Int) < l.length) : f (l.getD (k : Int).toNat K.ints.dflt) = true := by
  rw [Int.toNat_natCast, List.getD_eq_getElem?_getD, List.getElem?_eq_getElem omG]
  exact List.all_eq_true.1 h _ (List.getElem_mem _)
theorem px_nm (h : PX p s) : vA s.regs = true /\ vA s.mem = true /\ vA s.out = true /\ vA s.cond = true := ⟨cJ h.i.ro, cJ h.i.mo, cJ h.i.oo, cJ h.i.co⟩
end
theorem qav (p : V.Prog) (s : V.Path) (hx : PX p s) : CallsV Tryz.prog 35 [.agg [.dat (.i p.w), .dat (.i p.mem), .dat (.i p.inn), .dat (.seq .inss p.code)], .agg [.dat (.i s.pc), .dat (.seq .terms s.regs), .dat (.seq .terms s.mem), .dat (.seq .ints s.stack), .dat (.i s.inn), .dat (.seq .terms s.out), .dat (.i s.code), .dat (.i s.steps), .dat (.seq .terms s.cond), .dat (.seq .ints s.turns)]] (.dat (.bool true)) := by
  refine oV Tryz.func35 ⟨?_⟩
  repeat' (first | ((with_reducible refine fun (K1 : KT) hK => ?_); refine z2 ⟨?_⟩) | ((with_reducible show K1 _ _); subst hK; conv => whnf) | (with_reducible exact rfl) | refine st0 ⟨?_⟩ | ((with_reducible refine SplS.mk (fun h => ?_) (fun h => ?_)) <;> first | exact s5 | (subst h; conv => whnf) | (conv => whnf)) | refine s1 ⟨?_⟩ ⟨?_⟩ | (refine l5 ({k : Nat // k <= s.turns.length}) (fun ⟨k, hk⟩ => j5 Tryz.f35.ntmps [(2, .ptr 2 0), (3, .ptr 3 0), (94, .dat (.seq .ints s.turns)), (95, .dat (.i s.turns.length)), (96, .dat (.i k))] [(2, .box [.dat (.i p.w), .dat (.i p.mem), .dat (.i p.inn), .dat (.seq .inss p.code)]), (3, .box [.dat (.i s.pc), .dat (.seq .terms s.regs), .dat (.seq .terms s.mem), .dat (.seq .ints s.stack), .dat (.i s.inn), .dat (.seq .terms s.out), .dat (.i s.code), .dat (.i s.steps), .dat (.seq .terms s.cond), .dat (.seq .ints s.turns)])]) (fun ⟨k, hk⟩ => s.turns.length - k) ⟨0, Nat.zero_le _⟩ (SubP.sub (σ := [(2, some 2), (3, some 3)]) ⟨⟨rfl, rfl, rfl⟩, ⟨rr, rr, o0 ?_, o0 ?_, o0 ?_, trivial⟩, ⟨⟨j0 ?_, j0 ?_, j0 ?_, j0 ?_, trivial⟩, ⟨j0 ?_, j0 ?_, j0 ?_, j0 ?_, j0 ?_, j0 ?_, j0 ?_, j0 ?_, j0 ?_, j0 ?_, trivial⟩, trivial⟩⟩) (fun ⟨k, hk⟩ => ?_); rotate_right; conv => whnf) | (refine p5 (⟨k + 1, ?_⟩ : {k : Nat // k <= s.turns.length}) ?_ (SubP.sub (σ := [(2, some 2), (3, some 3)]) ⟨⟨rfl, rfl, rfl⟩, ⟨rr, rr, o0 ?_, o0 ?_, o0 ?_, trivial⟩, ⟨⟨j0 ?_, j0 ?_, j0 ?_, j0 ?_, trivial⟩, ⟨j0 ?_, j0 ?_, j0 ?_, j0 ?_, j0 ?_, j0 ?_, j0 ?_, j0 ?_, j0 ?_, j0 ?_, trivial⟩, trivial⟩⟩)) | (refine l5 ({k : Nat // k <= s.stack.length}) (fun ⟨k, hk⟩ => j5 Tryz.f35.ntmps [(2, .ptr 2 0), (3, .ptr 3 0), (80, .dat (.seq .ints s.stack)), (81, .dat (.i s.stack.length)), (82, .dat (.i k))] [(2, .box [.dat (.i p.w), .dat (.i p.mem), .dat (.i p.inn), .dat (.seq .inss p.code)]), (3, .box [.dat (.i s.pc), .dat (.seq .terms s.regs), .dat (.seq .terms s.mem), .dat (.seq .ints s.stack), .dat (.i s.inn), .dat (.seq .terms s.out), .dat (.i s.code), .dat (.i s.steps), .dat (.seq .terms s.cond), .dat (.seq .ints s.turns)])]) (fun ⟨k, hk⟩ => s.stack.length - k) ⟨0, Nat.zero_le _⟩ (SubP.sub (σ := [(2, some 2), (3, some 3)]) ⟨⟨rfl, rfl, rfl⟩, ⟨rr, rr, o0 ?_, o0 ?_, o0 ?_, trivial⟩, ⟨⟨j0 ?_, j0 ?_, j0 ?_, j0 ?_, trivial⟩, ⟨j0 ?_, j0 ?_, j0 ?_, j0 ?_, j0 ?_, j0 ?_, j0 ?_, j0 ?_, j0 ?_, j0 ?_, trivial⟩, trivial⟩⟩) (fun ⟨k, hk⟩ => ?_); rotate_right; conv => whnf) | (refine p5 (⟨k + 1, ?_⟩ : {k : Nat // k <= s.stack.length}) ?_ (SubP.sub (σ := [(2, some 2), (3, some 3)]) ⟨⟨rfl, rfl, rfl⟩, ⟨rr, rr, o0 ?_, o0 ?_, o0 ?_, trivial⟩, ⟨⟨j0 ?_, j0 ?_, j0 ?_, j0 ?_, trivial⟩, ⟨j0 ?_, j0 ?_, j0 ?_, j0 ?_, j0 ?_, j0 ?_, j0 ?_, j0 ?_, j0 ?_, j0 ?_, trivial⟩, trivial⟩⟩)) | refine vP (qM ..) ⟨?_⟩ | refine vP (tA ..) ⟨?_⟩ | refine vP (qhy (hn := ?_) ..) ⟨?_⟩ | (intro h; conv => whnf))
  all_goals repeat clear hK K1
  all_goals (have hs := hx.is; have hn := px_nm hx)
  all_goals first | (with_reducible assumption) | exact hn.1 | exact hn.2.1 | exact hn.2.2.1 | exact hn.2.2.2 | exact (l8 hs.hp asmR) | exact (l8 hs.pc asmR) | exact (l8 hs.inn asmR) | exact (l8 hs.code asmR) | exact (l8 hs.steps asmR) | exact (l8 (lP hs.so asmR) asmR) | exact (l8 (lP hs.tu asmR) asmR) | exact absurd hs.rl asmR | exact absurd hs.ml asmR | (exfalso; have h1 := hs.sl; have h2 := hs.ol; have h3 := hs.cl; have h4 := hs.tl; omega) | exact congrArg Dat.bool hs.co.symm | exact (l8 hs.ro asmR) | exact (l8 hs.mo asmR) | exact (l8 hs.oo asmR) | exact congrArg (Dat.int .i64) (wrap_succ asmR asmR).symm | ((with_reducible show (_ : Int) <= _); omega) | ((with_reducible show (_ : Nat) <= _); omega) | ((with_reducible show (_ : Nat) < _); ((try dsimp only); omega)) | exact rfl | skip
theorem qix (w mem inn : Int) (code : List V.Ins) (pc : Int) (rg mm : List V.Term) (sk : List Int) (ic : Int) (ot : List V.Term) (cd sp : Int) (cn : List V.Term) (tr : List Int) (hx : PX ⟨w, mem, inn, code⟩ ⟨pc, rg, mm, sk, ic, ot, cd, sp, cn, tr⟩) : CallsV Tryz.prog 35 [.agg [.dat (.i w), .dat (.i mem), .dat (.i inn), .dat (.seq .inss code)], .agg [.dat (.i pc), .dat (.seq .terms rg), .dat (.seq .terms mm), .dat (.seq .ints sk), .dat (.i ic), .dat (.seq .terms ot), .dat (.i cd), .dat (.i sp), .dat (.seq .terms cn), .dat (.seq .ints tr)]] (.dat (.bool true)) := qav ⟨w, mem, inn, code⟩ ⟨pc, rg, mm, sk, ic, ot, cd, sp, cn, tr⟩ hx
/-! ### a path that holds -/
theorem hold_vs {p : V.Prog} {s : V.Path} {x : List Int} (h : PX p s) (hl : InOk p x) : VsOk (j7 p.w x x.length) (r0 x) s.cond := ⟨fun t ht => (h.q.c t ht).ok, fun t ht => (h.q.c t ht).vok h.i.hp hl⟩
theorem qay (w : Int) (x : List Int) (l : List V.Term) (hv : VsOk (j7 w x x.length) (r0 x) l) (hl : l.length <= 1000) :
    CallsV Tryz.prog 38 [.dat (.seq .terms l), .dat (.seq .vals (j7 w x x.length))] (.tup [.dat (.seq .ints (w5 (r0 x) l)), .dat (.bool true)]) := qh6 l _ _ hv hl
theorem qd2 {σ : ByteArray -> Int} {l : List V.Term} {k : Nat} (h : (k : Int) < (w5 σ l).length) : (l.take (k + 1)).all (fun t => evT σ t == 1) = ((l.take k).all (fun t => evT σ t == 1) && ((w5 σ l).getD (k : Int).toNat K.ints.dflt == 1)) := by
  rw [eO] at h
  have hk : k < l.length := by omega
  have e : (w5 σ l).getD (k : Int).toNat K.ints.dflt = evT σ (kAt l k) := by rw [Int.toNat_natCast]; exact fO hk
  rw [e, List.take_add_one, List.getElem?_eq_getElem hk, List.all_append]
  have e2 : kAt l k = l[k] := by rw [kAt, List.getD_eq_getElem?_getD, List.getElem?_eq_getElem hk]; rfl
  rw [e2]; simp
theorem hold_t {σ : ByteArray -> Int} {l : List V.Term} {k : Nat} (h : (k : Int) < (w5 σ l).length) (ht : (l.take k).all (fun t => evT σ t == 1) = true) : (l.take (k + 1)).all (fun t => evT σ t == 1) = ((w5 σ l).getD (k : Int).toNat K.ints.dflt == 1) := by rw [qd2 h, ht, Bool.true_and]
theorem hold_f {σ : ByteArray -> Int} {l : List V.Term} {k : Nat} (h : (k : Int) < (w5 σ l).length) (ht : (l.take k).all (fun t => evT σ t == 1) = false) : (l.take (k + 1)).all (fun t => evT σ t == 1) = false := by rw [qd2 h, ht, Bool.false_and]
theorem qaw (p : V.Prog) (s : V.Path) (inp : List Int) (hx : PX p s) (hi : s8 p inp = true) : CallsV Tryz.prog 30 [.agg [.dat (.i p.w), .dat (.i p.mem), .dat (.i p.inn), .dat (.seq .inss p.code)], .agg [.dat (.i s.pc), .dat (.seq .terms s.regs), .dat (.seq .terms s.mem), .dat (.seq .ints s.stack), .dat (.i s.inn), .dat (.seq .terms s.out), .dat (.i s.code), .dat (.i s.steps), .dat (.seq .terms s.cond), .dat (.seq .ints s.turns)], .dat (.seq .ints inp)] (.dat (.bool (k8 p (r0 inp) s))) := by
  refine oV Tryz.func30 ⟨?_⟩
  repeat' (first | ((with_reducible refine fun (K1 : KT) hK => ?_); refine z2 ⟨?_⟩) | ((with_reducible show K1 _ _); subst hK; conv => whnf) | (with_reducible exact rfl) | refine st0 ⟨?_⟩ | ((with_reducible refine SplS.mk (fun h => ?_) (fun h => ?_)) <;> first | exact s5 | (subst h; conv => whnf) | (conv => whnf)) | refine s1 ⟨?_⟩ ⟨?_⟩ | (refine l5 ({k : Nat // k <= s.cond.length}) (fun ⟨k, hk⟩ => j5 Tryz.f30.ntmps [(3, .ptr 3 0), (4, .ptr 4 0), (8, .dat (.bool ((s.cond.take k).all (fun t => evT (r0 inp) t == 1)))), (30, .dat (.seq .ints (w5 (r0 inp) s.cond))), (31, .dat (.i (w5 (r0 inp) s.cond).length)), (32, .dat (.i k))] [(3, .box [.dat (.i p.w), .dat (.i p.mem), .dat (.i p.inn), .dat (.seq .inss p.code)]), (4, .box [.dat (.i s.pc), .dat (.seq .terms s.regs), .dat (.seq .terms s.mem), .dat (.seq .ints s.stack), .dat (.i s.inn), .dat (.seq .terms s.out), .dat (.i s.code), .dat (.i s.steps), .dat (.seq .terms s.cond), .dat (.seq .ints s.turns)])]) (fun ⟨k, hk⟩ => s.cond.length - k) ⟨0, Nat.zero_le _⟩ (SubP.sub (σ := [(3, some 3), (4, some 4)]) ⟨⟨rfl, rfl, rfl⟩, ⟨rr, rr, o0 ?_, o0 ?_, o0 ?_, o0 ?_, trivial⟩, ⟨⟨j0 ?_, j0 ?_, j0 ?_, j0 ?_, trivial⟩, ⟨j0 ?_, j0 ?_, j0 ?_, j0 ?_, j0 ?_, j0 ?_, j0 ?_, j0 ?_, j0 ?_, j0 ?_, trivial⟩, trivial⟩⟩) (fun ⟨k, hk⟩ => ?_); rotate_right; conv => whnf) | (refine p5 (⟨k + 1, ?_⟩ : {k : Nat // k <= s.cond.length}) ?_ (SubP.sub (σ := [(3, some 3), (4, some 4)]) ⟨⟨rfl, rfl, rfl⟩, ⟨rr, rr, o0 ?_, o0 ?_, o0 ?_, o0 ?_, trivial⟩, ⟨⟨j0 ?_, j0 ?_, j0 ?_, j0 ?_, trivial⟩, ⟨j0 ?_, j0 ?_, j0 ?_, j0 ?_, j0 ?_, j0 ?_, j0 ?_, j0 ?_, j0 ?_, j0 ?_, trivial⟩, trivial⟩⟩)) | refine vP (qav (hx := ?_) ..) ⟨?_⟩ | refine vP (xT ..) ⟨?_⟩ | refine vE (qay (hv := ?_) (hl := ?_) ..) ⟨?_⟩ | refine vE (qam (hl := ?_) ..) ⟨?_⟩ | (intro h; conv => whnf))
  all_goals repeat clear hK K1
  all_goals (have hin := mB hi; have hm := s6 hin.1; have hil := hin.2.len; have hcl := hx.i.cl; have hel := eO (r0 inp) s.cond)
  all_goals first | (with_reducible assumption) | exact hold_vs hx hin.2 | (exact Bool.noConfusion (show true = false by assumption)) | exact congrArg (Dat.int .i64) (wrap_succ asmR asmR).symm | exact congrArg Dat.bool (hold_t asmR asmR) | exact congrArg Dat.bool (hold_f asmR asmR) | (refine congrArg Dat.bool ?_; rw [yG hx]; unfold d7; rw [List.take_of_length_le omG]) | ((with_reducible show (_ : Int) <= _); omega) | ((with_reducible show (_ : Nat) <= _); omega) | ((with_reducible show (_ : Nat) < _); ((try dsimp only); omega)) | exact rfl | skip
theorem s_Holds (w mem inn : Int) (code : List V.Ins) (pc : Int) (rg mm : List V.Term) (sk : List Int) (ic : Int) (ot : List V.Term) (cd sp : Int) (cn : List V.Term) (tr : List Int) (inp : List Int) (hx : PX ⟨w, mem, inn, code⟩ ⟨pc, rg, mm, sk, ic, ot, cd, sp, cn, tr⟩) (hi : s8 ⟨w, mem, inn, code⟩ inp = true) : CallsV Tryz.prog 30 [.agg [.dat (.i w), .dat (.i mem), .dat (.i inn), .dat (.seq .inss code)], .agg [.dat (.i pc), .dat (.seq .terms rg), .dat (.seq .terms mm), .dat (.seq .ints sk), .dat (.i ic), .dat (.seq .terms ot), .dat (.i cd), .dat (.i sp), .dat (.seq .terms cn), .dat (.seq .ints tr)], .dat (.seq .ints inp)] (.dat (.bool (k8 ⟨w, mem, inn, code⟩ (r0 inp) ⟨pc, rg, mm, sk, ic, ot, cd, sp, cn, tr⟩))) := qaw ⟨w, mem, inn, code⟩ ⟨pc, rg, mm, sk, ic, ot, cd, sp, cn, tr⟩ inp hx hi
section
variable {p : V.Prog} {x : List Int} {fuel : Int} {k i : Nat} {s : V.Path}
theorem fh_y {σ : ByteArray -> Int} {L : List V.Path} (h : eA p σ L i < 0) (hb : k8 p σ (L.getD (i : Int).toNat K.paths.dflt) = true) : eA p σ L (i + 1) = i := by
  rw [Int.toNat_natCast] at hb; rw [eA, if_pos ⟨h, hb⟩]
theorem fh_n1 {σ : ByteArray -> Int} {L : List V.Path} (h : ¬ eA p σ L i < 0) : eA p σ L (i + 1) = eA p σ L i := by rw [eA, if_neg (fun q => h q.1)]
theorem fh_n2 {σ : ByteArray -> Int} {L : List V.Path} (hb : k8 p σ (L.getD (i : Int).toNat K.paths.dflt) = false) : eA p σ L (i + 1) = eA p σ L i := by
  rw [Int.toNat_natCast] at hb; rw [eA, if_neg (fun q => by rw [hb] at q; exact Bool.noConfusion q.2)]
theorem pf_len (h : PfI p x fuel (k, s)) (hi : i <= (z1 p s).length) (he : ¬ (i : Int) < (z1 p s).length) (hn : eA p (r0 x) (z1 p s) i < 0) : (z1 p s).length = 0 := by
  obtain rfl : i = (z1 p s).length := by omega
  by_cases c : (z1 p s).length = 0
  . exact c
  . rw [qel h.hx h.hl h.hc c] at hn; omega
theorem pf_x (h : PfI p x fuel (k, s)) (hk : (k : Int) < fuel) (hi : i <= (z1 p s).length) (he : ¬ (i : Int) < (z1 p s).length) (hn : eA p (r0 x) (z1 p s) i < 0) : x7 p (g7 p) fuel.toNat x = s := pf_b h hk (pf_len h hi he hn)
theorem pf_y (h : PfI p x fuel (k, s)) (hk : (k : Int) < fuel) (hi : i <= (z1 p s).length) (he : ¬ (i : Int) < (z1 p s).length) (hn : ¬ eA p (r0 x) (z1 p s) i < 0) :
    PfI p x fuel (k + 1, (z1 p s).getD (eA p (r0 x) (z1 p s) i).toNat K.paths.dflt) /\ eA p (r0 x) (z1 p s) i < (z1 p s).length := by
  obtain rfl : i = (z1 p s).length := by omega
  by_cases c : (z1 p s).length = 0
  . exfalso; rw [c] at hn; exact hn (by show (-1 : Int) < 0; decide)
  . rw [qel h.hx h.hl h.hc c, Int.toNat_natCast]
    exact ⟨pf_n h hk c, by have q : oB p (r0 x) s < (z1 p s).length := (qD h.hx h.hl h.hc c).1; exact Int.ofNat_lt.2 q⟩
theorem px_at (h : PfI p x fuel (k, s)) (hi : (i : Int) < (z1 p s).length) : PX p ((z1 p s).getD (i : Int).toNat K.paths.dflt) := by
  rw [Int.toNat_natCast]; exact (show PX p s from h.hx).step _ (dG omG)
end
theorem qiy (p : V.Prog) (inp : List Int) (fuel : Int) (hi : s8 p inp = true) (hf : 0 <= fuel) (hf2 : fuel <= 400) : CallsV Tryz.prog 7 [.agg [.dat (.i p.w), .dat (.i p.mem), .dat (.i p.inn), .dat (.seq .inss p.code)], .dat (.seq .ints inp), .dat (.i fuel)] (.tup [jG (x7 p (g7 p) fuel.toNat inp), .dat (.bool true)]) := by
  refine oV Tryz.func7 ⟨?_⟩
  repeat' (first | ((with_reducible refine fun (K1 : KT) hK => ?_); refine z2 ⟨?_⟩) | ((with_reducible show K1 _ _); subst hK; conv => whnf) | (with_reducible exact rfl) | refine st0 ⟨?_⟩ | ((with_reducible refine SplS.mk (fun h => ?_) (fun h => ?_)) <;> first | exact s5 | (subst h; conv => whnf) | (conv => whnf)) | refine s1 ⟨?_⟩ ⟨?_⟩ | (refine l5 ({i : Nat // i <= (z1 p s).length}) (fun ⟨i, hi2⟩ => j5 Tryz.f7.ntmps [(1, .dat (.seq .ints inp)), (2, .dat (.i fuel)), (3, .ptr 3 0), (6, .ptr 6 0), (7, .dat (.bool false)), (8, .ptr 8 0), (9, .dat (.i k)), (10, .dat (.i (eA p (r0 inp) (z1 p s) i))), (11, .dat (.seq .paths (z1 p s))), (34, .dat (.seq .paths (z1 p s))), (35, .dat (.i (z1 p s).length)), (36, .dat (.i i))] [(3, .box [.dat (.i p.w), .dat (.i p.mem), .dat (.i p.inn), .dat (.seq .inss p.code)]), (6, .box [.dat (.i 0), .nils, .nils, .nils, .dat (.i 0), .nils, .dat (.i 0), .dat (.i 0), .nils, .nils]), (8, .box [.dat (.i s.pc), .dat (.seq .terms s.regs), .dat (.seq .terms s.mem), .dat (.seq .ints s.stack), .dat (.i s.inn), .dat (.seq .terms s.out), .dat (.i s.code), .dat (.i s.steps), .dat (.seq .terms s.cond), .dat (.seq .ints s.turns)])]) (fun ⟨i, hi2⟩ => (z1 p s).length - i) ⟨0, Nat.zero_le _⟩ (SubP.sub (σ := [(3, some 3), (6, some 6), (8, some 8)]) ⟨⟨rfl, rfl, rfl⟩, ⟨o0 ?_, o0 ?_, rr, rr, o0 ?_, rr, o0 ?_, o0 ?_, o0 ?_, o0 ?_, o0 ?_, o0 ?_, trivial⟩, ⟨⟨j0 ?_, j0 ?_, j0 ?_, j0 ?_, trivial⟩, ⟨j0 ?_, trivial, trivial, trivial, j0 ?_, trivial, j0 ?_, j0 ?_, trivial, trivial, trivial⟩, ⟨j0 ?_, j0 ?_, j0 ?_, j0 ?_, j0 ?_, j0 ?_, j0 ?_, j0 ?_, j0 ?_, j0 ?_, trivial⟩, trivial⟩⟩) (fun ⟨i, hi2⟩ => ?_); rotate_right; conv => whnf) | (refine p5 (⟨i + 1, ?_⟩ : {i : Nat // i <= (z1 p s).length}) ?_ (SubP.sub (σ := [(3, some 3), (6, some 6), (8, some 8)]) ⟨⟨rfl, rfl, rfl⟩, ⟨o0 ?_, o0 ?_, rr, rr, o0 ?_, rr, o0 ?_, o0 ?_, o0 ?_, o0 ?_, o0 ?_, o0 ?_, trivial⟩, ⟨⟨j0 ?_, j0 ?_, j0 ?_, j0 ?_, trivial⟩, ⟨j0 ?_, trivial, trivial, trivial, j0 ?_, trivial, j0 ?_, j0 ?_, trivial, trivial, trivial⟩, ⟨j0 ?_, j0 ?_, j0 ?_, j0 ?_, j0 ?_, j0 ?_, j0 ?_, j0 ?_, j0 ?_, j0 ?_, trivial⟩, trivial⟩⟩)) | (refine l5 ({q : Nat × V.Path // PfI p inp fuel q}) (fun ⟨(k, s), hq⟩ => j5 Tryz.f7.ntmps [(1, .dat (.seq .ints inp)), (2, .dat (.i fuel)), (3, .ptr 3 0), (6, .ptr 6 0), (7, .dat (.bool false)), (8, .ptr 8 0), (9, .dat (.i k))] [(3, .box [.dat (.i p.w), .dat (.i p.mem), .dat (.i p.inn), .dat (.seq .inss p.code)]), (6, .box [.dat (.i 0), .nils, .nils, .nils, .dat (.i 0), .nils, .dat (.i 0), .dat (.i 0), .nils, .nils]), (8, .box [.dat (.i s.pc), .dat (.seq .terms s.regs), .dat (.seq .terms s.mem), .dat (.seq .ints s.stack), .dat (.i s.inn), .dat (.seq .terms s.out), .dat (.i s.code), .dat (.i s.steps), .dat (.seq .terms s.cond), .dat (.seq .ints s.turns)])]) (fun ⟨(k, s), hq⟩ => fuel.toNat - k) ⟨(0, g7 p), ?_⟩ (SubP.sub (σ := [(3, some 3), (6, some 6), (8, some 8)]) ⟨⟨rfl, rfl, rfl⟩, ⟨o0 ?_, o0 ?_, rr, rr, o0 ?_, rr, o0 ?_, trivial⟩, ⟨⟨j0 ?_, j0 ?_, j0 ?_, j0 ?_, trivial⟩, ⟨j0 ?_, trivial, trivial, trivial, j0 ?_, trivial, j0 ?_, j0 ?_, trivial, trivial, trivial⟩, ⟨j0 ?_, j0 ?_, j0 ?_, j0 ?_, j0 ?_, j0 ?_, j0 ?_, j0 ?_, j0 ?_, j0 ?_, trivial⟩, trivial⟩⟩) (fun ⟨(k, s), hq⟩ => ?_); rotate_right; conv => whnf) | (refine p5 (⟨(k + 1, ?_), ?_⟩ : {q : Nat × V.Path // PfI p inp fuel q}) ?_ (SubP.sub (σ := [(3, some 3), (6, some 6), (8, some 8)]) ⟨⟨rfl, rfl, rfl⟩, ⟨o0 ?_, o0 ?_, rr, rr, o0 ?_, rr, o0 ?_, trivial⟩, ⟨⟨j0 ?_, j0 ?_, j0 ?_, j0 ?_, trivial⟩, ⟨j0 ?_, trivial, trivial, trivial, j0 ?_, trivial, j0 ?_, j0 ?_, trivial, trivial, trivial⟩, ⟨j0 ?_, j0 ?_, j0 ?_, j0 ?_, j0 ?_, j0 ?_, j0 ?_, j0 ?_, j0 ?_, j0 ?_, trivial⟩, trivial⟩⟩)) | refine vP (xT ..) ⟨?_⟩ | refine vP (tA ..) ⟨?_⟩ | refine vP (qiv (hp := ?_) ..) ⟨?_⟩ | refine vP (qan (hP := ?_) ..) ⟨?_⟩ | refine vP (qaw (hx := ?_) (hi := ?_) ..) ⟨?_⟩ | (intro h; conv => whnf))
  all_goals repeat clear hK K1
  all_goals (try simp only [bQ] at *)
  all_goals (have hin := mB hi; have hm := s6 hin.1; have hil := hin.2.len)
  all_goals first | (with_reducible exact pf_0 hi hf) | (with_reducible exact hin.1) | (with_reducible exact hi) | ((with_reducible show PI _ _); exact hq.hx.i) | ((with_reducible show PX _ _); exact px_at hq asmR) | ((with_reducible show PfI _ _ _ _); exact (pf_y hq asmR hi2 asmR asmR).1) | exact (l8 (b6.2 ⟨hf, hf2⟩) asmR) | exact congrArg Dat.i (fh_y asmR asmR) | exact congrArg Dat.i (fh_n1 asmR) | exact congrArg Dat.i (fh_n2 asmR) | exact congrArg (Dat.int .i64) (wrap_succ asmR asmR).symm | (refine congrArg (Dat.int .i64) ?_; rw [j2 omG omG]; rfl) | ((with_reducible show _ < _); ((try dsimp only); omega)) | ((with_reducible show (_ : Int) < _); first | omega | exact (pf_y hq asmR hi2 asmR asmR).2) | ((with_reducible show (_ : Int) <= _); omega) | ((with_reducible show (_ : Nat) <= _); omega) | exact rfl | (have e : x7 p (g7 p) fuel.toNat inp = s := (by first | exact pf_end hq asmR | exact pf_x hq asmR hi2 asmR asmR); rw [e]; first | exact fr10M rfl | exact rfl) | skip
theorem qiz (w mem inn : Int) (code : List V.Ins) (inp : List Int) (fuel : Int) (hi : s8 ⟨w, mem, inn, code⟩ inp = true) (hf : 0 <= fuel) (hf2 : fuel <= 400) : CallsV Tryz.prog 7 [.agg [.dat (.i w), .dat (.i mem), .dat (.i inn), .dat (.seq .inss code)], .dat (.seq .ints inp), .dat (.i fuel)] (.tup [jG (x7 ⟨w, mem, inn, code⟩ (g7 ⟨w, mem, inn, code⟩) fuel.toNat inp), .dat (.bool true)]) := qiy ⟨w, mem, inn, code⟩ inp fuel hi hf hf2
end Vg
