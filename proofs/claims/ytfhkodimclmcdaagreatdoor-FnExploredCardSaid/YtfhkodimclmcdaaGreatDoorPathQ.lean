/- Paths in plain words: the program's step, as a function; what holds of a path under way. No condition. -/
import Derived.Test.YtfhkodimclmcdaaGreatDoorTermMS
import Derived.Test.YtfhkodimclmcdaaGreatDoorMStep
import Derived.Test.YtfhkodimclmcdaaGreatDoorPathA
namespace Vg
open Go Go.Proofs
def kH (s : V.Path) : AV := .agg [.dat (.i s.pc),.dat (.seq .terms s.regs),.dat (.seq .terms s.mem),.dat (.seq .ints s.stack),.dat (.i s.inn),.dat (.seq .terms s.out),.dat (.i s.code),.dat (.i s.steps),.dat (.seq .terms s.cond),.dat (.seq .ints s.turns)]
abbrev rgT (s : V.Path) (i : Int) : V.Term := s.regs.getD i.toNat K.terms.dflt
abbrev varT (w k : Int) : V.Term := ⟨22,w,0,l6 k,[]⟩
noncomputable def gC (p : V.Prog) (x : V.Term) : V.Term × Bool := s1 15 1 0 [x,cT p.w p.mem]
noncomputable def s9 (p : V.Prog) (x : V.Term) : V.Term × Bool := if (gC p x).2 = true then s1 1 1 0 [(gC p x).1] else (zT,false)
noncomputable def wE (p : V.Prog) (x : V.Term) : V.Term × Bool := s1 14 1 0 [cT p.w 0,x]
def r5 (i : V.Ins) : Bool := decide (i.op = 10 \/ i.op = 13 \/ (i.op = 3 /\ (i.c = 6 \/ i.c = 7)) \/ i.op = 7 \/ i.op = 8)
noncomputable def f3 (p : V.Prog) (s : V.Path) (i : V.Ins) : V.Term × Bool :=
  if i.op = 10 \/ i.op = 13 then wE p (rgT s i.a)
  else if i.op = 3 then (if i.c = 6 \/ i.c = 7 then wE p (rgT s i.b) else (zT,true))
  else if i.op = 7 then s9 p (rgT s i.b)
  else if i.op = 8 then s9 p (rgT s i.a)
  else (zT,true)
def p9 (s : V.Path) (i : V.Ins) : V.Path :=
  if i.op = 10 then { s with pc := i.b } else if i.op = 13 then { s with code := 8 } else if i.op = 3 then { s with code := 6 } else { s with code := 5 }
noncomputable def p7 (p : V.Prog) (k : Int) (x a b : V.Term) : V.Term × Bool :=
  if (s1 14 1 0 [cT p.w k,x]).2 = true then s1 17 p.w 0 [(s1 14 1 0 [cT p.w k,x]).1,a,b] else (zT,false)
noncomputable def r6 (p : V.Prog) (mm : List V.Term) (x : V.Term) : Nat -> V.Term × Bool
  | 0=>(kAt mm (p.mem.toNat - 1),true)
  | j + 1=>if (r6 p mm x j).2 = true then p7 p (p.mem - 2 - j) x (kAt mm (p.mem.toNat - 2 - j)) (r6 p mm x j).1 else (zT,false)
noncomputable def rB (p : V.Prog) (mm : List V.Term) (x : V.Term) : V.Term × Bool :=
  if x.op = 0 then (mm.getD x.n.toNat K.terms.dflt,true) else r6 p mm x (p.mem.toNat - 1)
noncomputable def jA (p : V.Prog) (mm : List V.Term) (x t : V.Term) : Nat -> Bool
  | 0=>true
  | k + 1=>jA p mm x t k && (p7 p (k : Int) x t (kAt mm k)).2
noncomputable def cB (p : V.Prog) (mm : List V.Term) (x t : V.Term) (k : Nat) : List V.Term := (List.range k).map fun (j : Nat)=>(p7 p (j : Int) x t (kAt mm j)).1
noncomputable def bB (p : V.Prog) (mm : List V.Term) (x t : V.Term) : List V.Term × Bool :=
  if x.op = 0 then (mm.set x.n.toNat t,true) else if jA p mm x t p.mem.toNat = true then (cB p mm x t p.mem.toNat,true) else ([],false)
def e8 (op w : Int) : Int := if 14 <= op then 1 else w
noncomputable def w9 (p : V.Prog) (op : Int) (a b : V.Term) : V.Term × Bool :=
  if (s1 op (e8 op p.w) 0 [a,b]).2 = false \/ op < 14 then s1 op (e8 op p.w) 0 [a,b] else s1 20 p.w 0 [(s1 op (e8 op p.w) 0 [a,b]).1]
noncomputable def i6 (p : V.Prog) (s : V.Path) (i : V.Ins) : V.Path × Bool :=
  if i.op = 1 then ({ s with regs := s.regs.set i.a.toNat (cT p.w i.b),pc := s.pc + 1 },true)
  else if i.op = 2 then ({ s with regs := s.regs.set i.a.toNat (rgT s i.b),pc := s.pc + 1 },true)
  else if i.op = 3 then ({ s with regs := s.regs.set i.a.toNat (w9 p i.c (rgT s i.a) (rgT s i.b)).1,pc := s.pc + 1 },(w9 p i.c (rgT s i.a) (rgT s i.b)).2)
  else if i.op = 4 then ({ s with regs := s.regs.set i.a.toNat (s1 1 p.w 0 [rgT s i.a]).1,pc := s.pc + 1 },(s1 1 p.w 0 [rgT s i.a]).2)
  else if i.op = 5 then ({ s with regs := s.regs.set i.a.toNat (varT p.w s.inn),inn := s.inn + 1,pc := s.pc + 1 },true)
  else if i.op = 6 then ({ s with out := s.out ++ [rgT s i.a],pc := s.pc + 1 },true)
  else if i.op = 7 then ({ s with regs := s.regs.set i.a.toNat (rB p s.mem (rgT s i.b)).1,pc := s.pc + 1 },(rB p s.mem (rgT s i.b)).2)
  else if i.op = 8 then ({ s with mem := (bB p s.mem (rgT s i.a) (rgT s i.b)).1,pc := s.pc + 1 },(bB p s.mem (rgT s i.a) (rgT s i.b)).2)
  else if i.op = 9 then ({ s with pc := i.b },true)
  else if i.op = 11 then ({ s with stack := s.stack ++ [s.pc + 1],pc := i.b },true)
  else if i.op = 12 then ({ s with pc := s.stack.getD (s.stack.length - 1) K.ints.dflt,stack := s.stack.take (s.stack.length - 1) },true)
  else if i.op = 14 then ({ s with code := 1 },true)
  else ({ s with pc := s.pc + 1 },true)
def g5 (p : V.Prog) (s : V.Path) (i : V.Ins) : Int :=
  if i.op = 5 /\ p.inn <= s.inn then 3
  else if i.op = 6 /\ 6 <= (s.out.length : Int) then 4
  else if i.op = 11 /\ 3 <= (s.stack.length : Int) then 7
  else if i.op = 12 /\ (s.stack.length : Int) = 0 then 7
  else 0
noncomputable def g9 (p : V.Prog) (s : V.Path) (i : V.Ins) : List V.Path :=
  if (f3 p s i).2 = false then [{ s with code := 9 }]
  else if r5 i = true /\ (f3 p s i).1.op = 0 /\ (f3 p s i).1.n = 1 then [p9 s i]
  else if (i6 p s i).2 = false then [{ s with code := 9 }]
  else if r5 i = false \/ (f3 p s i).1.op = 0 then [(i6 p s i).1]
  else if (s1 1 1 0 [(f3 p s i).1]).2 = false \/ 60 <= s.cond.length \/ 60 <= s.turns.length then [{ s with code := 9 }]
  else [{ p9 s i with cond := s.cond ++ [(f3 p s i).1],turns := s.turns ++ [1] },{ (i6 p s i).1 with cond := s.cond ++ [(s1 1 1 0 [(f3 p s i).1]).1],turns := s.turns ++ [0] }]
noncomputable def u0 (p : V.Prog) (s : V.Path) : List V.Path :=
  if s.code ≠ 0 \/ 400 <= s.steps then []
  else if s.pc = (p.code.length : Int) then [{ s with code := 2 }]
  else if g5 p { s with steps := s.steps + 1 } (p.code.getD s.pc.toNat K.inss.dflt) ≠ 0 then [{ s with steps := s.steps + 1,code := g5 p { s with steps := s.steps + 1 } (p.code.getD s.pc.toNat K.inss.dflt) }]
  else g9 p { s with steps := s.steps + 1 } (p.code.getD s.pc.toNat K.inss.dflt)
structure PI (p : V.Prog) (s : V.Path) : Prop where
  hp : i4 p = true
  pc0 : 0 <= s.pc
  pc1 : s.pc <= p.code.length
  rl : s.regs.length = 4
  ro : okTs s.regs = true
  ml : (s.mem.length : Int) = p.mem
  mo : okTs s.mem = true
  sl : s.stack.length <= 3
  so : ∀ x ∈ s.stack,0 <= x /\ x <= p.code.length
  i0 : 0 <= s.inn
  i1 : s.inn <= p.inn
  ol : s.out.length <= 6
  oo : okTs s.out = true
  st0 : 0 <= s.steps
  st1 : s.steps <= 400
  cl : s.cond.length <= 60
  co : okTs s.cond = true
  tl : s.turns.length <= 60
theorem rW {i : V.Ins} {w n : Int} (h : j5 i w n = true) (ho : i.op = 1) : wordP w i.b = true := by
  unfold j5 at h
  rw [if_pos ho] at h
  simp only [Bool.and_eq_true] at h
  exact h.1.2
theorem qW {i : V.Ins} {w n : Int} (h : j5 i w n = true) (ho : i.op = 9 \/ i.op = 10 \/ i.op = 11) : 0 <= i.b /\ i.b <= n := by
  unfold j5 at h
  rw [if_neg omG,if_neg omG,if_neg omG,if_neg omG] at h
  by_cases c : i.op = 9 \/ i.op = 11
  . rw [if_pos c] at h
    simp only [Bool.and_eq_true,k6] at h
    exact h.1.2
  . rw [if_neg c,if_pos omG] at h
    simp only [Bool.and_eq_true,k6] at h
    exact h.1.2
/-! ### terms that are put together are good -/
theorem eB {op w n : Int} {ks : List V.Term} (h : (s1 op w n ks).2 = true) : okT (s1 op w n ks).1 = true /\ (s1 op w n ks).1.w = w := by
  unfold s1 at h ⊢
  by_cases c : i7 (oT op w n ks) = true
  . rw [if_pos c]
    exact ⟨qcs (termP_ok c),mkT_w (termP_ok c)⟩
  . rw [if_neg c] at h;cases h
theorem dH {op w n : Int} {ks : List V.Term} (h : (s1 op w n ks).2 = true) : okT (oT op w n ks) = true /\ (s1 op w n ks).1 = j4 (oT op w n ks) := by
  unfold s1 at h ⊢
  by_cases c : i7 (oT op w n ks) = true
  . rw [if_pos c]
    exact ⟨termP_ok c,rfl⟩
  . rw [if_neg c] at h;cases h
theorem fV : ∀ {l : List V.Term} {k : Nat} {t : V.Term},okTs l = true -> okT t = true -> okTs (l.set k t) = true
  | [],_,_,h,_=>h
  | a :: l,0,t,h,ht=>by
    rw [okTs,Bool.and_eq_true] at h
    rw [List.set_cons_zero,okTs,ht,h.2];rfl
  | a :: l,k + 1,t,h,ht=>by
    rw [okTs,Bool.and_eq_true] at h
    rw [List.set_cons_succ,okTs,h.1,fV h.2 ht];rfl
theorem jV : ∀ {l m : List V.Term},okTs l = true -> okTs m = true -> okTs (l ++ m) = true
  | [],_,_,h=>h
  | a :: l,m,h,hm=>by
    rw [okTs,Bool.and_eq_true] at h
    rw [List.cons_append,okTs,h.1,jV h.2 hm];rfl
theorem kJ {t : V.Term} (h : okT t = true) : okTs [t] = true := by rw [okTs,okTs,h];rfl
theorem qkp {l : List V.Term} (h : ∀ t ∈ l,okT t = true) : okTs l = true := by
  induction l with
  | nil=>rw [okTs]
  | cons a l ih =>
    rw [okTs,h a (List.mem_cons_self ..),ih (fun t ht=>h t (List.mem_cons_of_mem _ ht))];rfl
theorem xQ {l : List V.Term} {k : Int} (h : okTs l = true) (h0 : 0 <= k) (h1 : k < l.length) : okT (l.getD k.toNat K.terms.dflt) = true :=
  gF (i := k.toNat) h omG
theorem qcn {k : Int} (h0 : 0 <= k) (h1 : k <= 9) : isNameP (l6 k) = true := by
  have : k = 0 \/ k = 1 \/ k = 2 \/ k = 3 \/ k = 4 \/ k = 5 \/ k = 6 \/ k = 7 \/ k = 8 \/ k = 9 := by omega
  rcases this with rfl|rfl|rfl|rfl|rfl|rfl|rfl|rfl|rfl|rfl <;> decide
theorem tZ {w k : Int} (hw : inP w 1 16 = true) (h0 : 0 <= k) (h1 : k <= 9) : okT (varT w k) = true := by
  rw [aH,Bool.and_eq_true,Bool.and_eq_true]
  exact ⟨⟨rC.2 ⟨hw,rfl,rfl,rfl,fun e=>absurd (show (22 : Int) = 0 from e) (by decide),fun _ _=>rfl,fun e=>absurd rfl e⟩,by rw [qcn h0 h1];simp⟩,by rw [okTs]⟩
section
variable {p : V.Prog} {s : V.Path} {i : V.Ins}
theorem PI.w (h : PI p s) : inP p.w 1 16 = true := progP_w h.hp
theorem a7 (h : i4 p = true) : 1 <= p.mem /\ p.mem <= 6 /\ wordP p.w p.mem = true /\ 0 <= p.inn /\ p.inn <= 3 /\ 1 <= p.code.length /\ p.code.length <= 40 /\ 2 <= p.w /\ p.w <= 8 := by
  unfold i4 at h
  simp only [Bool.and_eq_true,k6] at h
  obtain ⟨⟨⟨⟨⟨h1,h2⟩,h3⟩,h4⟩,h5⟩,_⟩ := h
  exact ⟨h2.1,h2.2,h3,h4.1,h4.2,by omega,by omega,h1.1,h1.2⟩
theorem mN {k : Int} (h : i4 p = true) (h0 : 0 <= k) (h1 : k < p.code.length) : j5 (p.code.getD k.toNat K.inss.dflt) p.w p.code.length = true := by
  unfold i4 at h
  simp only [Bool.and_eq_true] at h
  have hk : k.toNat < p.code.length := by omega
  have := List.all_eq_true.1 h.2 (p.code[k.toNat]) (List.getElem_mem hk)
  rw [List.getD_eq_getElem?_getD,List.getElem?_eq_getElem hk]
  exact this
theorem PI.reg (h : PI p s) {k : Int} (h0 : 0 <= k /\ k < 4) : okT (rgT s k) = true := xQ h.ro h0.1 (by rw [h.rl];exact h0.2)
theorem not_bit {b : Int} (hb : b = 0 \/ b = 1) (h : r7 1 1 b ≠ 1) : b = 1 := by
  rcases hb with rfl|rfl
  . exact absurd (by decide) h
  . rfl
theorem qib (b : Bool) : p8 b = 0 \/ p8 b = 1 := by cases b;exact .inl rfl;exact .inr rfl
theorem qho {x : V.Term} (hx : x.op = 0) (h1 : (s9 p x).2 = true) (h2 : ¬ ((s9 p x).1.op = 0 /\ (s9 p x).1.n = 1)) : 0 <= x.n /\ x.n < p.mem := by
  have hl : (gC p x).2 = true := by
    unfold s9 at h1
    by_cases c : (gC p x).2 = true
    . exact c
    . rw [if_neg c] at h1;cases h1
  obtain ⟨ok,e⟩ := dH hl
  have hx' : okT x = true := ok0 ok (show (1 : Int) <= 15 /\ (15 : Int) <= 21 by decide)
  have hk' : okT (cT p.w p.mem) = true := y4 ok (show (3 : Int) <= 15 /\ (15 : Int) <= 18 by decide)
  have hw : x.w = p.w := (pI ok (show (14 : Int) <= 15 /\ (15 : Int) <= 16 by decide)).1
  have hxw := const_w hx' hx
  have hkw : wordP p.w p.mem = true := const_w hk' rfl
  have e2 : (gC p x).1 = cT 1 (p8 (decide (x.n < p.mem))) := by
    rw [show (gC p x).1 = _ from e,fR (by simp) (by simp [k5,hx])]
    have : w6 (oT 15 1 0 [x,cT p.w p.mem]) (nums [x,cT p.w p.mem]) = m4 15 x.w x.n p.mem := by
      rw [ap_b (show (3 : Int) <= 15 /\ (15 : Int) <= 16 by decide)];rfl
    rw [this]
    congr 1
    unfold m4
    rw [if_pos (by rw [hxw,hw,hkw];rfl)]
    rfl
  refine ⟨(u4 hxw).2.1, ?_⟩
  have e3 : s9 p x = s1 1 1 0 [cT 1 (p8 (decide (x.n < p.mem)))] := by unfold s9;rw [if_pos hl,e2]
  rw [e3] at h1 h2
  obtain ⟨ok2,e4⟩ := dH h1
  rw [e4,fR (by simp) (by simp [k5])] at h2
  have e5 : w6 (oT 1 1 0 [cT 1 (p8 (decide (x.n < p.mem)))]) (nums [cT 1 (p8 (decide (x.n < p.mem)))]) = r7 1 1 (p8 (decide (x.n < p.mem))) := by
    rw [ap_u ok2 (show (1 : Int) = 1 \/ (1 : Int) = 2 by decide)];rfl
  rw [e5] at h2
  have := not_bit (qib _) (fun q=>h2 ⟨rfl,q⟩)
  by_cases c : x.n < p.mem
  . exact c
  . rw [decide_eq_false c] at this;cases this
theorem qgm {k : Int} {x a b : V.Term} (h : (p7 p k x a b).2 = true) : okT (p7 p k x a b).1 = true := by
  unfold p7 at h ⊢
  by_cases c : (s1 14 1 0 [cT p.w k,x]).2 = true
  . rw [if_pos c] at h ⊢;exact (eB h).1
  . rw [if_neg c] at h;cases h
theorem qlb {mm : List V.Term} {x : V.Term} (hm : okTs mm = true) (hl : (mm.length : Int) = p.mem) (h1 : 1 <= p.mem) : ∀ j,(r6 p mm x j).2 = true -> okT (r6 p mm x j).1 = true
  | 0,_=>gF hm omG
  | j + 1,h=>by
    rw [r6] at h ⊢
    by_cases c : (r6 p mm x j).2 = true
    . rw [if_pos c] at h ⊢;exact qgm h
    . rw [if_neg c] at h;cases h
theorem cQ {mm : List V.Term} {x t : V.Term} : ∀ k,jA p mm x t k = true -> ∀ j : Nat,j < k -> (p7 p (j : Int) x t (kAt mm j)).2 = true
  | 0,_,j,hj=>absurd hj (Nat.not_lt_zero _)
  | k + 1,h,j,hj=>by
    rw [jA,Bool.and_eq_true] at h
    by_cases c : j = k
    . subst c;exact h.2
    . exact cQ k h.1 j omG
theorem qii {mm : List V.Term} {x t : V.Term} {k : Nat} (h : jA p mm x t k = true) : okTs (cB p mm x t k) = true := by
  refine qkp (fun y hy=>?_)
  obtain ⟨j,hj,rfl⟩ := List.mem_map.1 hy
  exact qgm (cQ k h j (List.mem_range.1 hj))
theorem qkk {op : Int} {a b : V.Term} (h : (w9 p op a b).2 = true) : okT (w9 p op a b).1 = true := by
  unfold w9 at h ⊢
  by_cases c : (s1 op (e8 op p.w) 0 [a,b]).2 = false \/ op < 14
  . rw [if_pos c] at h ⊢;exact (eB h).1
  . rw [if_neg c] at h ⊢;exact (eB h).1
structure AddrOk (p : V.Prog) (s : V.Path) (i : V.Ins) : Prop where
  l : i.op = 7 -> (rgT s i.b).op = 0 -> 0 <= (rgT s i.b).n /\ (rgT s i.b).n < p.mem
  s : i.op = 8 -> (rgT s i.a).op = 0 -> 0 <= (rgT s i.a).n /\ (rgT s i.a).n < p.mem
theorem uS (h1 : (f3 p s i).2 = true) (h2 : r5 i = true -> ¬ ((f3 p s i).1.op = 0 /\ (f3 p s i).1.n = 1)) : AddrOk p s i := by
  refine ⟨fun e hx=>?_,fun e hx=>?_⟩
  . have hb : r5 i = true := by unfold r5;rw [e];exact decide_eq_true omG
    have ea : f3 p s i = s9 p (rgT s i.b) := by unfold f3;rw [e];rfl
    rw [ea] at h1 h2
    exact qho hx h1 (h2 hb)
  . have hb : r5 i = true := by unfold r5;rw [e];exact decide_eq_true omG
    have ea : f3 p s i = s9 p (rgT s i.a) := by unfold f3;rw [e];rfl
    rw [ea] at h1 h2
    exact qho hx h1 (h2 hb)
theorem PI.follow (h : PI p s) (hi : j5 i p.w p.code.length = true) (hpc : s.pc < p.code.length) (hk : g5 p s i = 0) (ha : AddrOk p s i) (hok : (i6 p s i).2 = true) : PI p (i6 p s i).1 := by
  obtain ⟨hp,pc0,pc1,rl,ro,ml,mo,sl,so,i0,i1,ol,oo,st0,st1,cl,co,tl⟩ := h
  have hR : PI p s := ⟨hp,pc0,pc1,rl,ro,ml,mo,sl,so,i0,i1,ol,oo,st0,st1,cl,co,tl⟩
  have hw := progP_w hp
  have hm := a7 hp
  have hia := fun q=>ins_a (op := i.op) (a := i.a) (b := i.b) (d := i.c) hi q
  have hib := fun q=>i8 (op := i.op) (a := i.a) (b := i.b) (d := i.c) hi q
  have hset : ∀ {t : V.Term} {k : Nat},okT t = true -> okTs (s.regs.set k t) = true := fun ht=>fV ro ht
  unfold i6 at hok ⊢
  by_cases c1 : i.op = 1
  . rw [if_pos c1]
    exact ⟨hp,by show 0 <= s.pc + 1;omega,by show s.pc + 1 <= _;omega,by simpa using rl,hset (qB (rW hi c1)),ml,mo,sl,so,i0,i1,ol,oo,st0,st1,cl,co,tl⟩
  rw [if_neg c1] at hok ⊢
  by_cases c2 : i.op = 2
  . rw [if_pos c2]
    exact ⟨hp,by show 0 <= s.pc + 1;omega,by show s.pc + 1 <= _;omega,by simpa using rl,hset (hR.reg (hib omG)),ml,mo,sl,so,i0,i1,ol,oo,st0,st1,cl,co,tl⟩
  rw [if_neg c2] at hok ⊢
  by_cases c3 : i.op = 3
  . rw [if_pos c3] at hok ⊢
    exact ⟨hp,by show 0 <= s.pc + 1;omega,by show s.pc + 1 <= _;omega,by simpa using rl,hset (qkk hok),ml,mo,sl,so,i0,i1,ol,oo,st0,st1,cl,co,tl⟩
  rw [if_neg c3] at hok ⊢
  by_cases c4 : i.op = 4
  . rw [if_pos c4] at hok ⊢
    exact ⟨hp,by show 0 <= s.pc + 1;omega,by show s.pc + 1 <= _;omega,by simpa using rl,hset (eB hok).1,ml,mo,sl,so,i0,i1,ol,oo,st0,st1,cl,co,tl⟩
  rw [if_neg c4] at hok ⊢
  by_cases c5 : i.op = 5
  . rw [if_pos c5]
    have : s.inn < p.inn := by
      unfold g5 at hk
      by_cases q : p.inn <= s.inn
      . rw [if_pos ⟨c5,q⟩] at hk;cases hk
      . omega
    exact ⟨hp,by show 0 <= s.pc + 1;omega,by show s.pc + 1 <= _;omega,by simpa using rl,hset (tZ hw i0 omG),ml,mo,sl,so,by show 0 <= s.inn + 1;omega,by show s.inn + 1 <= _;omega,ol,oo,st0,st1,cl,co,tl⟩
  rw [if_neg c5] at hok ⊢
  by_cases c6 : i.op = 6
  . rw [if_pos c6]
    have : s.out.length < 6 := by
      unfold g5 at hk
      rw [if_neg (fun q=>c5 q.1)] at hk
      by_cases q : 6 <= (s.out.length : Int)
      . rw [if_pos ⟨c6,q⟩] at hk;cases hk
      . omega
    exact ⟨hp,by show 0 <= s.pc + 1;omega,by show s.pc + 1 <= _;omega,rl,ro,ml,mo,sl,so,i0,i1,by simp;omega,jV oo (kJ (hR.reg (hia omG))),st0,st1,cl,co,tl⟩
  rw [if_neg c6] at hok ⊢
  by_cases c7 : i.op = 7
  . rw [if_pos c7] at hok ⊢
    refine ⟨hp,by show 0 <= s.pc + 1;omega,by show s.pc + 1 <= _;omega,by simpa using rl,hset ?_,ml,mo,sl,so,i0,i1,ol,oo,st0,st1,cl,co,tl⟩
    simp only at hok
    unfold rB at hok ⊢
    by_cases q : (rgT s i.b).op = 0
    . rw [if_pos q]
      have := ha.l c7 q
      exact xQ mo this.1 omG
    . rw [if_neg q] at hok ⊢
      exact qlb mo ml hm.1 _ hok
  rw [if_neg c7] at hok ⊢
  by_cases c8 : i.op = 8
  . rw [if_pos c8] at hok ⊢
    have key : ((bB p s.mem (rgT s i.a) (rgT s i.b)).1.length : Int) = p.mem /\ okTs (bB p s.mem (rgT s i.a) (rgT s i.b)).1 = true := by
      simp only at hok
      unfold bB at hok ⊢
      by_cases q : (rgT s i.a).op = 0
      . rw [if_pos q]
        exact ⟨by simpa using ml,fV mo (hR.reg (hib omG))⟩
      . rw [if_neg q] at hok ⊢
        by_cases z : jA p s.mem (rgT s i.a) (rgT s i.b) p.mem.toNat = true
        . rw [if_pos z]
          refine ⟨?_,qii z⟩
          simp [cB]
          omega
        . rw [if_neg z] at hok;cases hok
    exact ⟨hp,by show 0 <= s.pc + 1;omega,by show s.pc + 1 <= _;omega,rl,ro,key.1,key.2,sl,so,i0,i1,ol,oo,st0,st1,cl,co,tl⟩
  rw [if_neg c8] at hok ⊢
  by_cases c9 : i.op = 9
  . rw [if_pos c9]
    have := qW hi omG
    exact ⟨hp,this.1,this.2,rl,ro,ml,mo,sl,so,i0,i1,ol,oo,st0,st1,cl,co,tl⟩
  rw [if_neg c9] at hok ⊢
  by_cases c11 : i.op = 11
  . rw [if_pos c11]
    have := qW hi omG
    have hs : s.stack.length < 3 := by
      unfold g5 at hk
      rw [if_neg (fun q=>c5 q.1),if_neg (fun q=>c6 q.1)] at hk
      by_cases q : 3 <= (s.stack.length : Int)
      . rw [if_pos ⟨c11,q⟩] at hk;cases hk
      . omega
    refine ⟨hp,this.1,this.2,rl,ro,ml,mo,by simp;omega,fun x hx=>?_,i0,i1,ol,oo,st0,st1,cl,co,tl⟩
    rcases List.mem_append.1 hx with q|q
    . exact so x q
    . rw [List.mem_singleton] at q;subst q;omega
  rw [if_neg c11] at hok ⊢
  by_cases c12 : i.op = 12
  . rw [if_pos c12]
    have hs : 0 < s.stack.length := by
      unfold g5 at hk
      rw [if_neg (fun q=>c5 q.1),if_neg (fun q=>c6 q.1),if_neg (fun q=>c11 q.1)] at hk
      by_cases q : (s.stack.length : Int) = 0
      . rw [if_pos ⟨c12,q⟩] at hk;cases hk
      . omega
    have hx := so (s.stack.getD (s.stack.length - 1) K.ints.dflt) (by
      rw [List.getD_eq_getElem?_getD,List.getElem?_eq_getElem omG]
      exact List.getElem_mem _)
    exact ⟨hp,hx.1,hx.2,rl,ro,ml,mo,by simp;omega,fun x hx=>so x (List.mem_of_mem_take hx),i0,i1,ol,oo,st0,st1,cl,co,tl⟩
  rw [if_neg c12] at hok ⊢
  by_cases c14 : i.op = 14
  . rw [if_pos c14]
    exact ⟨hp,pc0,pc1,rl,ro,ml,mo,sl,so,i0,i1,ol,oo,st0,st1,cl,co,tl⟩
  rw [if_neg c14]
  exact ⟨hp,by show 0 <= s.pc + 1;omega,by show s.pc + 1 <= _;omega,rl,ro,ml,mo,sl,so,i0,i1,ol,oo,st0,st1,cl,co,tl⟩
theorem PI.named (h : PI p s) (hi : j5 i p.w p.code.length = true) : PI p (p9 s i) := by
  obtain ⟨hp,pc0,pc1,rl,ro,ml,mo,sl,so,i0,i1,ol,oo,st0,st1,cl,co,tl⟩ := h
  unfold p9
  by_cases c : i.op = 10
  . rw [if_pos c]
    have := qW hi omG
    exact ⟨hp,this.1,this.2,rl,ro,ml,mo,sl,so,i0,i1,ol,oo,st0,st1,cl,co,tl⟩
  rw [if_neg c]
  split
  . exact ⟨hp,pc0,pc1,rl,ro,ml,mo,sl,so,i0,i1,ol,oo,st0,st1,cl,co,tl⟩
  split
  . exact ⟨hp,pc0,pc1,rl,ro,ml,mo,sl,so,i0,i1,ol,oo,st0,st1,cl,co,tl⟩
  . exact ⟨hp,pc0,pc1,rl,ro,ml,mo,sl,so,i0,i1,ol,oo,st0,st1,cl,co,tl⟩
theorem PI.code (h : PI p s) (c : Int) : PI p { s with code := c } :=
  ⟨h.hp,h.pc0,h.pc1,h.rl,h.ro,h.ml,h.mo,h.sl,h.so,h.i0,h.i1,h.ol,h.oo,h.st0,h.st1,h.cl,h.co,h.tl⟩
theorem PI.cond (h : PI p s) {t : V.Term} {l : List V.Term} {m : List Int} {n : Int} (ht : okT t = true) (hl : okTs l = true) (h1 : ¬ 60 <= l.length) (h2 : ¬ 60 <= m.length) : PI p { s with cond := l ++ [t],turns := m ++ [n] } :=
  ⟨h.hp,h.pc0,h.pc1,h.rl,h.ro,h.ml,h.mo,h.sl,h.so,h.i0,h.i1,h.ol,h.oo,h.st0,h.st1,by simp;omega,jV hl (kJ ht),by simp;omega⟩
theorem lZ {x : V.Term} (h : (wE p x).2 = true) : okT (wE p x).1 = true /\ (wE p x).1.w = 1 := eB h
theorem qhq {x : V.Term} (h : (s9 p x).2 = true) : okT (s9 p x).1 = true /\ (s9 p x).1.w = 1 := by
  unfold s9 at h ⊢
  by_cases c : (gC p x).2 = true
  . rw [if_pos c] at h ⊢;exact eB h
  . rw [if_neg c] at h;cases h
theorem kP (ha : r5 i = true) (h : (f3 p s i).2 = true) : okT (f3 p s i).1 = true /\ (f3 p s i).1.w = 1 := by
  unfold r5 at ha
  have ha := of_decide_eq_true ha
  unfold f3 at h ⊢
  by_cases c1 : i.op = 10 \/ i.op = 13
  . rw [if_pos c1] at h ⊢;exact lZ h
  rw [if_neg c1] at h ⊢
  by_cases c2 : i.op = 3
  . rw [if_pos c2] at h ⊢
    rw [if_pos omG] at h ⊢
    exact lZ h
  rw [if_neg c2] at h ⊢
  by_cases c3 : i.op = 7
  . rw [if_pos c3] at h ⊢;exact qhq h
  rw [if_neg c3] at h ⊢
  rw [if_pos omG] at h ⊢
  exact qhq h
theorem PI.divide (h : PI p s) (hi : j5 i p.w p.code.length = true) (hpc : s.pc < p.code.length) (hk : g5 p s i = 0) : ∀ t ∈ g9 p s i,PI p t := by
  intro t ht
  unfold g9 at ht
  by_cases c1 : (f3 p s i).2 = false
  . rw [if_pos c1,List.mem_singleton] at ht;subst ht;exact h.code 9
  rw [if_neg c1] at ht
  have c1' : (f3 p s i).2 = true := by simpa using c1
  by_cases c2 : r5 i = true /\ (f3 p s i).1.op = 0 /\ (f3 p s i).1.n = 1
  . rw [if_pos c2,List.mem_singleton] at ht;subst ht;exact h.named hi
  rw [if_neg c2] at ht
  by_cases c3 : (i6 p s i).2 = false
  . rw [if_pos c3,List.mem_singleton] at ht;subst ht;exact h.code 9
  rw [if_neg c3] at ht
  have hf := h.follow hi hpc hk (uS c1' (fun a q=>c2 ⟨a,q⟩)) (by simpa using c3)
  by_cases c4 : r5 i = false \/ (f3 p s i).1.op = 0
  . rw [if_pos c4,List.mem_singleton] at ht;subst ht;exact hf
  rw [if_neg c4] at ht
  by_cases c5 : (s1 1 1 0 [(f3 p s i).1]).2 = false \/ 60 <= s.cond.length \/ 60 <= s.turns.length
  . rw [if_pos c5,List.mem_singleton] at ht;subst ht;exact h.code 9
  rw [if_neg c5] at ht
  have ha : r5 i = true := by
    cases e : r5 i with
    | true=>rfl
    | false=>exact absurd (.inl e) c4
  have hn : (s1 1 1 0 [(f3 p s i).1]).2 = true := by
    cases e : (s1 1 1 0 [(f3 p s i).1]).2 with
    | true=>rfl
    | false=>exact absurd (.inl e) c5
  simp only [List.mem_cons,List.not_mem_nil,or_false] at ht
  rcases ht with rfl|rfl
  . exact (h.named hi).cond (kP ha c1').1 h.co (fun q=>c5 (.inr (.inl q))) (fun q=>c5 (.inr (.inr q)))
  . exact hf.cond (eB hn).1 h.co (fun q=>c5 (.inr (.inl q))) (fun q=>c5 (.inr (.inr q)))
theorem PI.steps (h : PI p s) (h1 : s.steps < 400) : PI p { s with steps := s.steps + 1 } :=
  ⟨h.hp,h.pc0,h.pc1,h.rl,h.ro,h.ml,h.mo,h.sl,h.so,h.i0,h.i1,h.ol,h.oo,by have := h.st0;show 0 <= s.steps + 1;omega,by show s.steps + 1 <= 400;omega,h.cl,h.co,h.tl⟩
theorem PI.step (h : PI p s) : ∀ t ∈ u0 p s,PI p t := by
  intro t ht
  unfold u0 at ht
  by_cases c1 : s.code ≠ 0 \/ 400 <= s.steps
  . rw [if_pos c1] at ht;cases ht
  rw [if_neg c1] at ht
  by_cases c2 : s.pc = (p.code.length : Int)
  . rw [if_pos c2,List.mem_singleton] at ht;subst ht;exact h.code 2
  rw [if_neg c2] at ht
  have h' := h.steps omG
  have p0 := h.pc0
  have p1 := h.pc1
  by_cases c3 : g5 p { s with steps := s.steps + 1 } (p.code.getD s.pc.toNat K.inss.dflt) ≠ 0
  . rw [if_pos c3,List.mem_singleton] at ht;subst ht;exact h'.code _
  rw [if_neg c3] at ht
  exact h'.divide (mN h.hp p0 omG) (by show s.pc < _;omega) (by simpa using c3) t ht
end
end Vg
