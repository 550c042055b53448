/- The machine in plain words: why an instruction cannot be done, what it does, a step. No condition. -/
import Derived.Test.YtjlffejifadkiaaGreatDoorRedQ
import Derived.Test.YtjlffejifadkiaaGreatDoorTermMS
import Derived.Test.YtjlffejifadkiaaGreatDoorPathA
namespace Vg
open Go Go.Proofs
theorem m9 {op a b d w n : Int} (h : d5 ⟨op, a, b, d⟩ w n = true) (ho : op = 1 ∨ op = 2 ∨ op = 3 ∨ op = 4 ∨ op = 5 ∨ op = 6 ∨ op = 7 ∨ op = 8 ∨ op = 10 ∨ op = 13) : 0 ≤ a ∧ a < 4 := by
  rcases ho with rfl | rfl | rfl | rfl | rfl | rfl | rfl | rfl | rfl | rfl <;> simp [d5, b9, inP] at h <;> omega
theorem r9 {op a b d w n : Int} (h : d5 ⟨op, a, b, d⟩ w n = true) (ho : op = 2 ∨ op = 3 ∨ op = 7 ∨ op = 8) : 0 ≤ b ∧ b < 4 := by
  rcases ho with rfl | rfl | rfl | rfl <;> simp [d5, b9, inP] at h <;> omega
def datPt (s : V.Path) : AV := .agg [.dat (.i s.pc), .dat (.seq .terms s.regs), .dat (.seq .terms s.mem), .dat (.seq .ints s.stack), .dat (.i s.inn), .dat (.seq .terms s.out), .dat (.i s.code), .dat (.i s.steps), .dat (.seq .terms s.cond), .dat (.seq .ints s.turns)]
abbrev rgT (s : V.Path) (i : Int) : V.Term := s.regs.getD i.toNat K.terms.dflt
abbrev varT (w k : Int) : V.Term := ⟨22, w, 0, b5 k, []⟩
noncomputable def yD (p : V.Prog) (x : V.Term) : V.Term × Bool := s1 15 1 0 [x, cT p.w p.mem]
noncomputable def n9 (p : V.Prog) (x : V.Term) : V.Term × Bool := if (yD p x).2 = true then s1 1 1 0 [(yD p x).1] else (zT, false)
noncomputable def tG (p : V.Prog) (x : V.Term) : V.Term × Bool := s1 14 1 0 [cT p.w 0, x]
def n5 (i : V.Ins) : Bool := decide (i.op = 10 ∨ i.op = 13 ∨ (i.op = 3 ∧ (i.c = 6 ∨ i.c = 7)) ∨ i.op = 7 ∨ i.op = 8)
noncomputable def j2 (p : V.Prog) (s : V.Path) (i : V.Ins) : V.Term × Bool :=
  if i.op = 10 ∨ i.op = 13 then tG p (rgT s i.a)
  else if i.op = 3 then (if i.c = 6 ∨ i.c = 7 then tG p (rgT s i.b) else (zT, true))
  else if i.op = 7 then n9 p (rgT s i.b)
  else if i.op = 8 then n9 p (rgT s i.a)
  else (zT, true)
def g9 (s : V.Path) (i : V.Ins) : V.Path :=
  if i.op = 10 then { s with pc := i.b } else if i.op = 13 then { s with code := 8 } else if i.op = 3 then { s with code := 6 } else { s with code := 5 }
noncomputable def w6 (p : V.Prog) (k : Int) (x a b : V.Term) : V.Term × Bool :=
  if (s1 14 1 0 [cT p.w k, x]).2 = true then s1 17 p.w 0 [(s1 14 1 0 [cT p.w k, x]).1, a, b] else (zT, false)
noncomputable def t5 (p : V.Prog) (mm : List V.Term) (x : V.Term) : Nat → V.Term × Bool
  | 0 => (kAt mm (p.mem.toNat - 1), true)
  | j + 1 => if (t5 p mm x j).2 = true then w6 p (p.mem - 2 - j) x (kAt mm (p.mem.toNat - 2 - j)) (t5 p mm x j).1 else (zT, false)
noncomputable def iC (p : V.Prog) (mm : List V.Term) (x : V.Term) : V.Term × Bool :=
  if x.op = 0 then (mm.getD x.n.toNat K.terms.dflt, true) else t5 p mm x (p.mem.toNat - 1)
noncomputable def z8 (p : V.Prog) (mm : List V.Term) (x t : V.Term) : Nat → Bool
  | 0 => true
  | k + 1 => z8 p mm x t k && (w6 p (k : Int) x t (kAt mm k)).2
noncomputable def kA (p : V.Prog) (mm : List V.Term) (x t : V.Term) (k : Nat) : List V.Term := (List.range k).map fun (j : Nat) => (w6 p (j : Int) x t (kAt mm j)).1
noncomputable def yA (p : V.Prog) (mm : List V.Term) (x t : V.Term) : List V.Term × Bool :=
  if x.op = 0 then (mm.set x.n.toNat t, true) else if z8 p mm x t p.mem.toNat = true then (kA p mm x t p.mem.toNat, true) else ([], false)
def j8 (op w : Int) : Int := if 14 ≤ op then 1 else w
noncomputable def d9 (p : V.Prog) (op : Int) (a b : V.Term) : V.Term × Bool :=
  if (s1 op (j8 op p.w) 0 [a, b]).2 = false ∨ op < 14 then s1 op (j8 op p.w) 0 [a, b] else s1 20 p.w 0 [(s1 op (j8 op p.w) 0 [a, b]).1]
noncomputable def p5 (p : V.Prog) (s : V.Path) (i : V.Ins) : V.Path × Bool :=
  if i.op = 1 then ({ s with regs := s.regs.set i.a.toNat (cT p.w i.b), pc := s.pc + 1 }, true)
  else if i.op = 2 then ({ s with regs := s.regs.set i.a.toNat (rgT s i.b), pc := s.pc + 1 }, true)
  else if i.op = 3 then ({ s with regs := s.regs.set i.a.toNat (d9 p i.c (rgT s i.a) (rgT s i.b)).1, pc := s.pc + 1 }, (d9 p i.c (rgT s i.a) (rgT s i.b)).2)
  else if i.op = 4 then ({ s with regs := s.regs.set i.a.toNat (s1 1 p.w 0 [rgT s i.a]).1, pc := s.pc + 1 }, (s1 1 p.w 0 [rgT s i.a]).2)
  else if i.op = 5 then ({ s with regs := s.regs.set i.a.toNat (varT p.w s.inn), inn := s.inn + 1, pc := s.pc + 1 }, true)
  else if i.op = 6 then ({ s with out := s.out ++ [rgT s i.a], pc := s.pc + 1 }, true)
  else if i.op = 7 then ({ s with regs := s.regs.set i.a.toNat (iC p s.mem (rgT s i.b)).1, pc := s.pc + 1 }, (iC p s.mem (rgT s i.b)).2)
  else if i.op = 8 then ({ s with mem := (yA p s.mem (rgT s i.a) (rgT s i.b)).1, pc := s.pc + 1 }, (yA p s.mem (rgT s i.a) (rgT s i.b)).2)
  else if i.op = 9 then ({ s with pc := i.b }, true)
  else if i.op = 11 then ({ s with stack := s.stack ++ [s.pc + 1], pc := i.b }, true)
  else if i.op = 12 then ({ s with pc := s.stack.getD (s.stack.length - 1) K.ints.dflt, stack := s.stack.take (s.stack.length - 1) }, true)
  else if i.op = 14 then ({ s with code := 1 }, true)
  else ({ s with pc := s.pc + 1 }, true)
def t4 (p : V.Prog) (s : V.Path) (i : V.Ins) : Int :=
  if i.op = 5 ∧ p.inn ≤ s.inn then 3
  else if i.op = 6 ∧ 6 ≤ (s.out.length : Int) then 4
  else if i.op = 11 ∧ 3 ≤ (s.stack.length : Int) then 7
  else if i.op = 12 ∧ (s.stack.length : Int) = 0 then 7
  else 0
noncomputable def q8 (p : V.Prog) (s : V.Path) (i : V.Ins) : List V.Path :=
  if (j2 p s i).2 = false then [{ s with code := 9 }]
  else if n5 i = true ∧ (j2 p s i).1.op = 0 ∧ (j2 p s i).1.n = 1 then [g9 s i]
  else if (p5 p s i).2 = false then [{ s with code := 9 }]
  else if n5 i = false ∨ (j2 p s i).1.op = 0 then [(p5 p s i).1]
  else if (s1 1 1 0 [(j2 p s i).1]).2 = false ∨ 60 ≤ s.cond.length ∨ 60 ≤ s.turns.length then [{ s with code := 9 }]
  else [{ g9 s i with cond := s.cond ++ [(j2 p s i).1], turns := s.turns ++ [1] }, { (p5 p s i).1 with cond := s.cond ++ [(s1 1 1 0 [(j2 p s i).1]).1], turns := s.turns ++ [0] }]
noncomputable def z2 (p : V.Prog) (s : V.Path) : List V.Path :=
  if s.code ≠ 0 ∨ 400 ≤ s.steps then []
  else if s.pc = (p.code.length : Int) then [{ s with code := 2 }]
  else if t4 p { s with steps := s.steps + 1 } (p.code.getD s.pc.toNat K.inss.dflt) ≠ 0 then [{ s with steps := s.steps + 1, code := t4 p { s with steps := s.steps + 1 } (p.code.getD s.pc.toNat K.inss.dflt) }]
  else q8 p { s with steps := s.steps + 1 } (p.code.getD s.pc.toNat K.inss.dflt)
structure PI (p : V.Prog) (s : V.Path) : Prop where
  hp : y4 p = true
  pc0 : 0 ≤ s.pc
  pc1 : s.pc ≤ p.code.length
  rl : s.regs.length = 4
  ro : okTs s.regs = true
  ml : (s.mem.length : Int) = p.mem
  mo : okTs s.mem = true
  sl : s.stack.length ≤ 3
  so : ∀ x ∈ s.stack, 0 ≤ x ∧ x ≤ p.code.length
  i0 : 0 ≤ s.inn
  i1 : s.inn ≤ p.inn
  ol : s.out.length ≤ 6
  oo : okTs s.out = true
  st0 : 0 ≤ s.steps
  st1 : s.steps ≤ 400
  cl : s.cond.length ≤ 60
  co : okTs s.cond = true
  tl : s.turns.length ≤ 60
theorem kS {i : V.Ins} {w n : Int} (h : d5 i w n = true) (ho : i.op = 1) : wordP w i.b = true := by
  unfold d5 at h
  rw [if_pos ho] at h
  simp only [Bool.and_eq_true] at h
  exact h.1.2
theorem jS {i : V.Ins} {w n : Int} (h : d5 i w n = true) (ho : i.op = 9 ∨ i.op = 10 ∨ i.op = 11) : 0 ≤ i.b ∧ i.b ≤ n := by
  unfold d5 at h
  rw [if_neg omG, if_neg omG, if_neg omG, if_neg omG] at h
  by_cases c : i.op = 9 ∨ i.op = 11
  · rw [if_pos c] at h
    simp only [Bool.and_eq_true, inP_iff] at h
    exact h.1.2
  · rw [if_neg c, if_pos omG] at h
    simp only [Bool.and_eq_true, inP_iff] at h
    exact h.1.2
/-! ### terms that are put together are good -/
theorem qA {op w n : Int} {ks : List V.Term} (h : (s1 op w n ks).2 = true) : okT (s1 op w n ks).1 = true ∧ (s1 op w n ks).1.w = w := by
  unfold s1 at h ⊢
  by_cases c : z6 (oT op w n ks) = true
  · rw [if_pos c]
    exact ⟨wY (termP_ok c), mkT_w (termP_ok c)⟩
  · rw [if_neg c] at h; cases h
theorem iN {op w n : Int} {ks : List V.Term} (h : (s1 op w n ks).2 = true) : okT (oT op w n ks) = true ∧ (s1 op w n ks).1 = u2 (oT op w n ks) := by
  unfold s1 at h ⊢
  by_cases c : z6 (oT op w n ks) = true
  · rw [if_pos c]
    exact ⟨termP_ok c, rfl⟩
  · rw [if_neg c] at h; cases h
theorem zQ : ∀ {l : List V.Term} {k : Nat} {t : V.Term}, okTs l = true → okT t = true → okTs (l.set k t) = true
  | [], _, _, h, _ => h
  | a :: l, 0, t, h, ht => by
    rw [okTs, Bool.and_eq_true] at h
    rw [List.set_cons_zero, okTs, ht, h.2]; rfl
  | a :: l, k + 1, t, h, ht => by
    rw [okTs, Bool.and_eq_true] at h
    rw [List.set_cons_succ, okTs, h.1, zQ h.2 ht]; rfl
theorem bR : ∀ {l m : List V.Term}, okTs l = true → okTs m = true → okTs (l ++ m) = true
  | [], _, _, h => h
  | a :: l, m, h, hm => by
    rw [okTs, Bool.and_eq_true] at h
    rw [List.cons_append, okTs, h.1, bR h.2 hm]; rfl
theorem gH {t : V.Term} (h : okT t = true) : okTs [t] = true := by rw [okTs, okTs, h]; rfl
theorem qf5 {l : List V.Term} (h : ∀ t ∈ l, okT t = true) : okTs l = true := by
  induction l with
  | nil => rw [okTs]
  | cons a l ih =>
    rw [okTs, h a (List.mem_cons_self ..), ih (fun t ht => h t (List.mem_cons_of_mem _ ht))]; rfl
theorem uM {l : List V.Term} {k : Int} (h : okTs l = true) (h0 : 0 ≤ k) (h1 : k < l.length) : okT (l.getD k.toNat K.terms.dflt) = true :=
  sD (i := k.toNat) h omG
theorem sY {k : Int} (h0 : 0 ≤ k) (h1 : k ≤ 9) : isNameP (b5 k) = true := by
  have : k = 0 ∨ k = 1 ∨ k = 2 ∨ k = 3 ∨ k = 4 ∨ k = 5 ∨ k = 6 ∨ k = 7 ∨ k = 8 ∨ k = 9 := by omega
  rcases this with rfl | rfl | rfl | rfl | rfl | rfl | rfl | rfl | rfl | rfl <;> decide
theorem eV {w k : Int} (hw : inP w 1 16 = true) (h0 : 0 ≤ k) (h1 : k ≤ 9) : okT (varT w k) = true := by
  rw [qE, Bool.and_eq_true, Bool.and_eq_true]
  exact ⟨⟨oB.2 ⟨hw, rfl, rfl, rfl, fun e => absurd (show (22 : Int) = 0 from e) (by decide), fun _ _ => rfl, fun e => absurd rfl e⟩, by rw [sY h0 h1]; simp⟩, by rw [okTs]⟩
section
variable {p : V.Prog} {s : V.Path} {i : V.Ins}
theorem PI.w (h : PI p s) : inP p.w 1 16 = true := progP_w h.hp
theorem g6 (h : y4 p = true) : 1 ≤ p.mem ∧ p.mem ≤ 6 ∧ wordP p.w p.mem = true ∧ 0 ≤ p.inn ∧ p.inn ≤ 3 ∧ 1 ≤ p.code.length ∧ p.code.length ≤ 40 ∧ 2 ≤ p.w ∧ p.w ≤ 8 := by
  unfold y4 at h
  simp only [Bool.and_eq_true, inP_iff] at h
  obtain ⟨⟨⟨⟨⟨h1, h2⟩, h3⟩, h4⟩, h5⟩, _⟩ := h
  exact ⟨h2.1, h2.2, h3, h4.1, h4.2, by omega, by omega, h1.1, h1.2⟩
theorem qM {k : Int} (h : y4 p = true) (h0 : 0 ≤ k) (h1 : k < p.code.length) : d5 (p.code.getD k.toNat K.inss.dflt) p.w p.code.length = true := by
  unfold y4 at h
  simp only [Bool.and_eq_true] at h
  have hk : k.toNat < p.code.length := by omega
  have := List.all_eq_true.1 h.2 (p.code[k.toNat]) (List.getElem_mem hk)
  rw [List.getD_eq_getElem?_getD, List.getElem?_eq_getElem hk]
  exact this
theorem PI.reg (h : PI p s) {k : Int} (h0 : 0 ≤ k ∧ k < 4) : okT (rgT s k) = true := uM h.ro h0.1 (by rw [h.rl]; exact h0.2)
theorem not_bit {b : Int} (hb : b = 0 ∨ b = 1) (h : aA 1 1 b ≠ 1) : b = 1 := by
  rcases hb with rfl | rfl
  · exact absurd (by decide) h
  · rfl
theorem qd9 (b : Bool) : eA b = 0 ∨ eA b = 1 := by cases b; exact .inl rfl; exact .inr rfl
theorem qdt {x : V.Term} (hx : x.op = 0) (h1 : (n9 p x).2 = true) (h2 : ¬ ((n9 p x).1.op = 0 ∧ (n9 p x).1.n = 1)) : 0 ≤ x.n ∧ x.n < p.mem := by
  have hl : (yD p x).2 = true := by
    unfold n9 at h1
    by_cases c : (yD p x).2 = true
    · exact c
    · rw [if_neg c] at h1; cases h1
  obtain ⟨ok, e⟩ := iN hl
  have hx' : okT x = true := ok0 ok (show (1 : Int) ≤ 15 ∧ (15 : Int) ≤ 21 by decide)
  have hk' : okT (cT p.w p.mem) = true := u1 ok (show (3 : Int) ≤ 15 ∧ (15 : Int) ≤ 18 by decide)
  have hw : x.w = p.w := (oH ok (show (14 : Int) ≤ 15 ∧ (15 : Int) ≤ 16 by decide)).1
  have hxw := xE hx' hx
  have hkw : wordP p.w p.mem = true := xE hk' rfl
  have e2 : (yD p x).1 = cT 1 (eA (decide (x.n < p.mem))) := by
    rw [show (yD p x).1 = _ from e, fN (by simp) (by simp [j4, hx])]
    have : o5 (oT 15 1 0 [x, cT p.w p.mem]) (nums [x, cT p.w p.mem]) = w5 15 x.w x.n p.mem := by
      rw [ap_b (show (3 : Int) ≤ 15 ∧ (15 : Int) ≤ 16 by decide)]; rfl
    rw [this]
    congr 1
    unfold w5
    rw [if_pos (by rw [hxw, hw, hkw]; rfl)]
    rfl
  refine ⟨(k5 hxw).2.1, ?_⟩
  have e3 : n9 p x = s1 1 1 0 [cT 1 (eA (decide (x.n < p.mem)))] := by unfold n9; rw [if_pos hl, e2]
  rw [e3] at h1 h2
  obtain ⟨ok2, e4⟩ := iN h1
  rw [e4, fN (by simp) (by simp [j4])] at h2
  have e5 : o5 (oT 1 1 0 [cT 1 (eA (decide (x.n < p.mem)))]) (nums [cT 1 (eA (decide (x.n < p.mem)))]) = aA 1 1 (eA (decide (x.n < p.mem))) := by
    rw [ap_u ok2 (show (1 : Int) = 1 ∨ (1 : Int) = 2 by decide)]; rfl
  rw [e5] at h2
  have := not_bit (qd9 _) (fun q => h2 ⟨rfl, q⟩)
  by_cases c : x.n < p.mem
  · exact c
  · rw [decide_eq_false c] at this; cases this
theorem qc5 {k : Int} {x a b : V.Term} (h : (w6 p k x a b).2 = true) : okT (w6 p k x a b).1 = true := by
  unfold w6 at h ⊢
  by_cases c : (s1 14 1 0 [cT p.w k, x]).2 = true
  · rw [if_pos c] at h ⊢; exact (qA h).1
  · rw [if_neg c] at h; cases h
theorem qgt {mm : List V.Term} {x : V.Term} (hm : okTs mm = true) (hl : (mm.length : Int) = p.mem) (h1 : 1 ≤ p.mem) : ∀ j, (t5 p mm x j).2 = true → okT (t5 p mm x j).1 = true
  | 0, _ => sD hm omG
  | j + 1, h => by
    rw [t5] at h ⊢
    by_cases c : (t5 p mm x j).2 = true
    · rw [if_pos c] at h ⊢; exact qc5 h
    · rw [if_neg c] at h; cases h
theorem oP {mm : List V.Term} {x t : V.Term} : ∀ k, z8 p mm x t k = true → ∀ j : Nat, j < k → (w6 p (j : Int) x t (kAt mm j)).2 = true
  | 0, _, j, hj => absurd hj (Nat.not_lt_zero _)
  | k + 1, h, j, hj => by
    rw [z8, Bool.and_eq_true] at h
    by_cases c : j = k
    · subst c; exact h.2
    · exact oP k h.1 j omG
theorem qed {mm : List V.Term} {x t : V.Term} {k : Nat} (h : z8 p mm x t k = true) : okTs (kA p mm x t k) = true := by
  refine qf5 (fun y hy => ?_)
  obtain ⟨j, hj, rfl⟩ := List.mem_map.1 hy
  exact qc5 (oP k h j (List.mem_range.1 hj))
theorem qf1 {op : Int} {a b : V.Term} (h : (d9 p op a b).2 = true) : okT (d9 p op a b).1 = true := by
  unfold d9 at h ⊢
  by_cases c : (s1 op (j8 op p.w) 0 [a, b]).2 = false ∨ op < 14
  · rw [if_pos c] at h ⊢; exact (qA h).1
  · rw [if_neg c] at h ⊢; exact (qA h).1
structure AddrOk (p : V.Prog) (s : V.Path) (i : V.Ins) : Prop where
  l : i.op = 7 → (rgT s i.b).op = 0 → 0 ≤ (rgT s i.b).n ∧ (rgT s i.b).n < p.mem
  s : i.op = 8 → (rgT s i.a).op = 0 → 0 ≤ (rgT s i.a).n ∧ (rgT s i.a).n < p.mem
theorem qO (h1 : (j2 p s i).2 = true) (h2 : n5 i = true → ¬ ((j2 p s i).1.op = 0 ∧ (j2 p s i).1.n = 1)) : AddrOk p s i := by
  refine ⟨fun e hx => ?_, fun e hx => ?_⟩
  · have hb : n5 i = true := by unfold n5; rw [e]; exact decide_eq_true omG
    have ea : j2 p s i = n9 p (rgT s i.b) := by unfold j2; rw [e]; rfl
    rw [ea] at h1 h2
    exact qdt hx h1 (h2 hb)
  · have hb : n5 i = true := by unfold n5; rw [e]; exact decide_eq_true omG
    have ea : j2 p s i = n9 p (rgT s i.a) := by unfold j2; rw [e]; rfl
    rw [ea] at h1 h2
    exact qdt hx h1 (h2 hb)
theorem PI.follow (h : PI p s) (hi : d5 i p.w p.code.length = true) (hpc : s.pc < p.code.length) (hk : t4 p s i = 0) (ha : AddrOk p s i) (hok : (p5 p s i).2 = true) : PI p (p5 p s i).1 := by
  obtain ⟨hp, pc0, pc1, rl, ro, ml, mo, sl, so, i0, i1, ol, oo, st0, st1, cl, co, tl⟩ := h
  have hR : PI p s := ⟨hp, pc0, pc1, rl, ro, ml, mo, sl, so, i0, i1, ol, oo, st0, st1, cl, co, tl⟩
  have hw := progP_w hp
  have hm := g6 hp
  have hia := fun q => m9 (op := i.op) (a := i.a) (b := i.b) (d := i.c) hi q
  have hib := fun q => r9 (op := i.op) (a := i.a) (b := i.b) (d := i.c) hi q
  have hset : ∀ {t : V.Term} {k : Nat}, okT t = true → okTs (s.regs.set k t) = true := fun ht => zQ ro ht
  unfold p5 at hok ⊢
  by_cases c1 : i.op = 1
  · rw [if_pos c1]
    exact ⟨hp, by show 0 ≤ s.pc + 1; omega, by show s.pc + 1 ≤ _; omega, by simpa using rl, hset (pA (kS hi c1)), ml, mo, sl, so, i0, i1, ol, oo, st0, st1, cl, co, tl⟩
  rw [if_neg c1] at hok ⊢
  by_cases c2 : i.op = 2
  · rw [if_pos c2]
    exact ⟨hp, by show 0 ≤ s.pc + 1; omega, by show s.pc + 1 ≤ _; omega, by simpa using rl, hset (hR.reg (hib omG)), ml, mo, sl, so, i0, i1, ol, oo, st0, st1, cl, co, tl⟩
  rw [if_neg c2] at hok ⊢
  by_cases c3 : i.op = 3
  · rw [if_pos c3] at hok ⊢
    exact ⟨hp, by show 0 ≤ s.pc + 1; omega, by show s.pc + 1 ≤ _; omega, by simpa using rl, hset (qf1 hok), ml, mo, sl, so, i0, i1, ol, oo, st0, st1, cl, co, tl⟩
  rw [if_neg c3] at hok ⊢
  by_cases c4 : i.op = 4
  · rw [if_pos c4] at hok ⊢
    exact ⟨hp, by show 0 ≤ s.pc + 1; omega, by show s.pc + 1 ≤ _; omega, by simpa using rl, hset (qA hok).1, ml, mo, sl, so, i0, i1, ol, oo, st0, st1, cl, co, tl⟩
  rw [if_neg c4] at hok ⊢
  by_cases c5 : i.op = 5
  · rw [if_pos c5]
    have : s.inn < p.inn := by
      unfold t4 at hk
      by_cases q : p.inn ≤ s.inn
      · rw [if_pos ⟨c5, q⟩] at hk; cases hk
      · omega
    exact ⟨hp, by show 0 ≤ s.pc + 1; omega, by show s.pc + 1 ≤ _; omega, by simpa using rl, hset (eV hw i0 omG), ml, mo, sl, so, by show 0 ≤ s.inn + 1; omega, by show s.inn + 1 ≤ _; omega, ol, oo, st0, st1, cl, co, tl⟩
  rw [if_neg c5] at hok ⊢
  by_cases c6 : i.op = 6
  · rw [if_pos c6]
    have : s.out.length < 6 := by
      unfold t4 at hk
      rw [if_neg (fun q => c5 q.1)] at hk
      by_cases q : 6 ≤ (s.out.length : Int)
      · rw [if_pos ⟨c6, q⟩] at hk; cases hk
      · omega
    exact ⟨hp, by show 0 ≤ s.pc + 1; omega, by show s.pc + 1 ≤ _; omega, rl, ro, ml, mo, sl, so, i0, i1, by simp; omega, bR oo (gH (hR.reg (hia omG))), st0, st1, cl, co, tl⟩
  rw [if_neg c6] at hok ⊢
  by_cases c7 : i.op = 7
  · rw [if_pos c7] at hok ⊢
    refine ⟨hp, by show 0 ≤ s.pc + 1; omega, by show s.pc + 1 ≤ _; omega, by simpa using rl, hset ?_, ml, mo, sl, so, i0, i1, ol, oo, st0, st1, cl, co, tl⟩
    simp only at hok
    unfold iC at hok ⊢
    by_cases q : (rgT s i.b).op = 0
    · rw [if_pos q]
      have := ha.l c7 q
      exact uM mo this.1 omG
    · rw [if_neg q] at hok ⊢
      exact qgt mo ml hm.1 _ hok
  rw [if_neg c7] at hok ⊢
  by_cases c8 : i.op = 8
  · rw [if_pos c8] at hok ⊢
    have key : ((yA p s.mem (rgT s i.a) (rgT s i.b)).1.length : Int) = p.mem ∧ okTs (yA p s.mem (rgT s i.a) (rgT s i.b)).1 = true := by
      simp only at hok
      unfold yA at hok ⊢
      by_cases q : (rgT s i.a).op = 0
      · rw [if_pos q]
        exact ⟨by simpa using ml, zQ mo (hR.reg (hib omG))⟩
      · rw [if_neg q] at hok ⊢
        by_cases z : z8 p s.mem (rgT s i.a) (rgT s i.b) p.mem.toNat = true
        · rw [if_pos z]
          refine ⟨?_, qed z⟩
          simp [kA]
          omega
        · rw [if_neg z] at hok; cases hok
    exact ⟨hp, by show 0 ≤ s.pc + 1; omega, by show s.pc + 1 ≤ _; omega, rl, ro, key.1, key.2, sl, so, i0, i1, ol, oo, st0, st1, cl, co, tl⟩
  rw [if_neg c8] at hok ⊢
  by_cases c9 : i.op = 9
  · rw [if_pos c9]
    have := jS hi omG
    exact ⟨hp, this.1, this.2, rl, ro, ml, mo, sl, so, i0, i1, ol, oo, st0, st1, cl, co, tl⟩
  rw [if_neg c9] at hok ⊢
  by_cases c11 : i.op = 11
  · rw [if_pos c11]
    have := jS hi omG
    have hs : s.stack.length < 3 := by
      unfold t4 at hk
      rw [if_neg (fun q => c5 q.1), if_neg (fun q => c6 q.1)] at hk
      by_cases q : 3 ≤ (s.stack.length : Int)
      · rw [if_pos ⟨c11, q⟩] at hk; cases hk
      · omega
    refine ⟨hp, this.1, this.2, rl, ro, ml, mo, by simp; omega, fun x hx => ?_, i0, i1, ol, oo, st0, st1, cl, co, tl⟩
    rcases List.mem_append.1 hx with q | q
    · exact so x q
    · rw [List.mem_singleton] at q; subst q; omega
  rw [if_neg c11] at hok ⊢
  by_cases c12 : i.op = 12
  · rw [if_pos c12]
    have hs : 0 < s.stack.length := by
      unfold t4 at hk
      rw [if_neg (fun q => c5 q.1), if_neg (fun q => c6 q.1), if_neg (fun q => c11 q.1)] at hk
      by_cases q : (s.stack.length : Int) = 0
      · rw [if_pos ⟨c12, q⟩] at hk; cases hk
      · omega
    have hx := so (s.stack.getD (s.stack.length - 1) K.ints.dflt) (by
      rw [List.getD_eq_getElem?_getD, List.getElem?_eq_getElem omG]
      exact List.getElem_mem _)
    exact ⟨hp, hx.1, hx.2, rl, ro, ml, mo, by simp; omega, fun x hx => so x (List.mem_of_mem_take hx), i0, i1, ol, oo, st0, st1, cl, co, tl⟩
  rw [if_neg c12] at hok ⊢
  by_cases c14 : i.op = 14
  · rw [if_pos c14]
    exact ⟨hp, pc0, pc1, rl, ro, ml, mo, sl, so, i0, i1, ol, oo, st0, st1, cl, co, tl⟩
  rw [if_neg c14]
  exact ⟨hp, by show 0 ≤ s.pc + 1; omega, by show s.pc + 1 ≤ _; omega, rl, ro, ml, mo, sl, so, i0, i1, ol, oo, st0, st1, cl, co, tl⟩
theorem PI.named (h : PI p s) (hi : d5 i p.w p.code.length = true) : PI p (g9 s i) := by
  obtain ⟨hp, pc0, pc1, rl, ro, ml, mo, sl, so, i0, i1, ol, oo, st0, st1, cl, co, tl⟩ := h
  unfold g9
  by_cases c : i.op = 10
  · rw [if_pos c]
    have := jS hi omG
    exact ⟨hp, this.1, this.2, rl, ro, ml, mo, sl, so, i0, i1, ol, oo, st0, st1, cl, co, tl⟩
  rw [if_neg c]
  split
  · exact ⟨hp, pc0, pc1, rl, ro, ml, mo, sl, so, i0, i1, ol, oo, st0, st1, cl, co, tl⟩
  split
  · exact ⟨hp, pc0, pc1, rl, ro, ml, mo, sl, so, i0, i1, ol, oo, st0, st1, cl, co, tl⟩
  · exact ⟨hp, pc0, pc1, rl, ro, ml, mo, sl, so, i0, i1, ol, oo, st0, st1, cl, co, tl⟩
theorem PI.code (h : PI p s) (c : Int) : PI p { s with code := c } :=
  ⟨h.hp, h.pc0, h.pc1, h.rl, h.ro, h.ml, h.mo, h.sl, h.so, h.i0, h.i1, h.ol, h.oo, h.st0, h.st1, h.cl, h.co, h.tl⟩
theorem PI.cond (h : PI p s) {t : V.Term} {l : List V.Term} {m : List Int} {n : Int} (ht : okT t = true) (hl : okTs l = true) (h1 : ¬ 60 ≤ l.length) (h2 : ¬ 60 ≤ m.length) : PI p { s with cond := l ++ [t], turns := m ++ [n] } :=
  ⟨h.hp, h.pc0, h.pc1, h.rl, h.ro, h.ml, h.mo, h.sl, h.so, h.i0, h.i1, h.ol, h.oo, h.st0, h.st1, by simp; omega, bR hl (gH ht), by simp; omega⟩
theorem yU {x : V.Term} (h : (tG p x).2 = true) : okT (tG p x).1 = true ∧ (tG p x).1.w = 1 := qA h
theorem qdu {x : V.Term} (h : (n9 p x).2 = true) : okT (n9 p x).1 = true ∧ (n9 p x).1.w = 1 := by
  unfold n9 at h ⊢
  by_cases c : (yD p x).2 = true
  · rw [if_pos c] at h ⊢; exact qA h
  · rw [if_neg c] at h; cases h
theorem mL (ha : n5 i = true) (h : (j2 p s i).2 = true) : okT (j2 p s i).1 = true ∧ (j2 p s i).1.w = 1 := by
  unfold n5 at ha
  have ha := of_decide_eq_true ha
  unfold j2 at h ⊢
  by_cases c1 : i.op = 10 ∨ i.op = 13
  · rw [if_pos c1] at h ⊢; exact yU h
  rw [if_neg c1] at h ⊢
  by_cases c2 : i.op = 3
  · rw [if_pos c2] at h ⊢
    rw [if_pos omG] at h ⊢
    exact yU h
  rw [if_neg c2] at h ⊢
  by_cases c3 : i.op = 7
  · rw [if_pos c3] at h ⊢; exact qdu h
  rw [if_neg c3] at h ⊢
  rw [if_pos omG] at h ⊢
  exact qdu h
theorem PI.divide (h : PI p s) (hi : d5 i p.w p.code.length = true) (hpc : s.pc < p.code.length) (hk : t4 p s i = 0) : ∀ t ∈ q8 p s i, PI p t := by
  intro t ht
  unfold q8 at ht
  by_cases c1 : (j2 p s i).2 = false
  · rw [if_pos c1, List.mem_singleton] at ht; subst ht; exact h.code 9
  rw [if_neg c1] at ht
  have c1' : (j2 p s i).2 = true := by simpa using c1
  by_cases c2 : n5 i = true ∧ (j2 p s i).1.op = 0 ∧ (j2 p s i).1.n = 1
  · rw [if_pos c2, List.mem_singleton] at ht; subst ht; exact h.named hi
  rw [if_neg c2] at ht
  by_cases c3 : (p5 p s i).2 = false
  · rw [if_pos c3, List.mem_singleton] at ht; subst ht; exact h.code 9
  rw [if_neg c3] at ht
  have hf := h.follow hi hpc hk (qO c1' (fun a q => c2 ⟨a, q⟩)) (by simpa using c3)
  by_cases c4 : n5 i = false ∨ (j2 p s i).1.op = 0
  · rw [if_pos c4, List.mem_singleton] at ht; subst ht; exact hf
  rw [if_neg c4] at ht
  by_cases c5 : (s1 1 1 0 [(j2 p s i).1]).2 = false ∨ 60 ≤ s.cond.length ∨ 60 ≤ s.turns.length
  · rw [if_pos c5, List.mem_singleton] at ht; subst ht; exact h.code 9
  rw [if_neg c5] at ht
  have ha : n5 i = true := by
    cases e : n5 i with
    | true => rfl
    | false => exact absurd (.inl e) c4
  have hn : (s1 1 1 0 [(j2 p s i).1]).2 = true := by
    cases e : (s1 1 1 0 [(j2 p s i).1]).2 with
    | true => rfl
    | false => exact absurd (.inl e) c5
  simp only [List.mem_cons, List.not_mem_nil, or_false] at ht
  rcases ht with rfl | rfl
  · exact (h.named hi).cond (mL ha c1').1 h.co (fun q => c5 (.inr (.inl q))) (fun q => c5 (.inr (.inr q)))
  · exact hf.cond (qA hn).1 h.co (fun q => c5 (.inr (.inl q))) (fun q => c5 (.inr (.inr q)))
theorem PI.steps (h : PI p s) (h1 : s.steps < 400) : PI p { s with steps := s.steps + 1 } :=
  ⟨h.hp, h.pc0, h.pc1, h.rl, h.ro, h.ml, h.mo, h.sl, h.so, h.i0, h.i1, h.ol, h.oo, by have := h.st0; show 0 ≤ s.steps + 1; omega, by show s.steps + 1 ≤ 400; omega, h.cl, h.co, h.tl⟩
theorem PI.step (h : PI p s) : ∀ t ∈ z2 p s, PI p t := by
  intro t ht
  unfold z2 at ht
  by_cases c1 : s.code ≠ 0 ∨ 400 ≤ s.steps
  · rw [if_pos c1] at ht; cases ht
  rw [if_neg c1] at ht
  by_cases c2 : s.pc = (p.code.length : Int)
  · rw [if_pos c2, List.mem_singleton] at ht; subst ht; exact h.code 2
  rw [if_neg c2] at ht
  have h' := h.steps omG
  have p0 := h.pc0
  have p1 := h.pc1
  by_cases c3 : t4 p { s with steps := s.steps + 1 } (p.code.getD s.pc.toNat K.inss.dflt) ≠ 0
  · rw [if_pos c3, List.mem_singleton] at ht; subst ht; exact h'.code _
  rw [if_neg c3] at ht
  exact h'.divide (qM h.hp p0 omG) (by show s.pc < _; omega) (by simpa using c3) t ht
end
end Vg
