/- The machine in plain words: why an instruction cannot be done, what it does, a step. No condition. -/
import Derived.Test.YtfhkodimclmcdaaGreatDoorRedQ
namespace Vg
open Go Go.Proofs
def l8 (s : V.State) (i : Int) : Int := s.regs.getD i.toNat K.ints.dflt
def m6 (p : V.Prog) (s : V.State) (i : V.Ins) : Int :=
  if i.op = 5 then (if p.inn <= s.inn then 3 else 0)
  else if i.op = 6 then (if 6 <= (s.out.length : Int) then 4 else 0)
  else if i.op = 7 then (if p.mem <= l8 s i.b then 5 else 0)
  else if i.op = 8 then (if p.mem <= l8 s i.a then 5 else 0)
  else if i.op = 3 then (if (i.c = 6 \/ i.c = 7) /\ l8 s i.b = 0 then 6 else 0)
  else if i.op = 11 then (if 3 <= (s.stack.length : Int) then 7 else 0)
  else if i.op = 12 then (if (s.stack.length : Int) = 0 then 7 else 0)
  else if i.op = 13 then (if l8 s i.a = 0 then 8 else 0)
  else 0
def aC (p : V.Prog) (s : V.State) (i : V.Ins) (inp : List Int) : V.State :=
  if i.op = 1 then { s with regs := s.regs.set i.a.toNat i.b,pc := s.pc + 1 }
  else if i.op = 2 then { s with regs := s.regs.set i.a.toNat (l8 s i.b),pc := s.pc + 1 }
  else if i.op = 3 then { s with regs := s.regs.set i.a.toNat (m4 i.c p.w (l8 s i.a) (l8 s i.b)),pc := s.pc + 1 }
  else if i.op = 4 then { s with regs := s.regs.set i.a.toNat (r7 1 p.w (l8 s i.a)),pc := s.pc + 1 }
  else if i.op = 5 then { s with regs := s.regs.set i.a.toNat (inp.getD s.inn.toNat K.ints.dflt),inn := s.inn + 1,pc := s.pc + 1 }
  else if i.op = 6 then { s with out := s.out ++ [l8 s i.a],pc := s.pc + 1 }
  else if i.op = 7 then { s with regs := s.regs.set i.a.toNat (s.mem.getD (l8 s i.b).toNat K.ints.dflt),pc := s.pc + 1 }
  else if i.op = 8 then { s with mem := s.mem.set (l8 s i.a).toNat (l8 s i.b),pc := s.pc + 1 }
  else if i.op = 9 then { s with pc := i.b }
  else if i.op = 10 then { s with pc := if l8 s i.a = 0 then i.b else s.pc + 1 }
  else if i.op = 11 then { s with stack := s.stack ++ [s.pc + 1],pc := i.b }
  else if i.op = 12 then { s with pc := s.stack.getD (s.stack.length - 1) K.ints.dflt,stack := s.stack.take (s.stack.length - 1) }
  else if i.op = 14 then { s with code := 1 }
  else { s with pc := s.pc + 1 }
def bA (p : V.Prog) (s : V.State) (inp : List Int) : V.State :=
  if s.code = 0 /\ s.steps < 400 then
    if s.pc = (p.code.length : Int) then { s with code := 2 }
    else if m6 p { s with steps := s.steps + 1 } (p.code.getD s.pc.toNat K.inss.dflt) = 0 then aC p { s with steps := s.steps + 1 } (p.code.getD s.pc.toNat K.inss.dflt) inp
    else { s with steps := s.steps + 1,code := m6 p { s with steps := s.steps + 1 } (p.code.getD s.pc.toNat K.inss.dflt) }
  else s
theorem ins_a {op a b d w n : Int} (h : j5 ⟨op,a,b,d⟩ w n = true) (ho : op = 1 \/ op = 2 \/ op = 3 \/ op = 4 \/ op = 5 \/ op = 6 \/ op = 7 \/ op = 8 \/ op = 10 \/ op = 13) : 0 <= a /\ a < 4 := by
  rcases ho with rfl|rfl|rfl|rfl|rfl|rfl|rfl|rfl|rfl|rfl <;> simp [j5,kA,inP] at h <;> omega
theorem i8 {op a b d w n : Int} (h : j5 ⟨op,a,b,d⟩ w n = true) (ho : op = 2 \/ op = 3 \/ op = 7 \/ op = 8) : 0 <= b /\ b < 4 := by
  rcases ho with rfl|rfl|rfl|rfl <;> simp [j5,kA,inP] at h <;> omega
theorem ins_op {op a b d w n : Int} (h : j5 ⟨op,a,b,d⟩ w n = true) : 1 <= op /\ op <= 14 := by
  by_cases ho : 1 <= op /\ op <= 14
  . exact ho
  . simp only [j5,show ¬ op = 1 from by omega,show ¬ op = 2 from by omega,show ¬ op = 3 from by omega,show ¬ op = 4 from by omega,show ¬ op = 5 from by omega,show ¬ op = 6 from by omega,show ¬ op = 7 from by omega,show ¬ op = 8 from by omega,show ¬ op = 9 from by omega,show ¬ op = 10 from by omega,show ¬ op = 11 from by omega,show ¬ op = 12 from by omega,show ¬ op = 13 from by omega,show ¬ op = 14 from by omega,or_self,if_false] at h
    cases h
theorem tV {l : List Int} (h : ∀ x ∈ l,0 <= x) (i : Int) : 0 <= l.getD i.toNat K.ints.dflt := by
  rw [List.getD_eq_getElem?_getD]
  cases hi : l[i.toNat]? with
  | none=>exact Int.le_refl 0
  | some x=>exact h x (List.mem_of_getElem? hi)
theorem why7 {p : V.Prog} {s : V.State} {a b d : Int} (h : m6 p s ⟨7,a,b,d⟩ = 0) : l8 s b < p.mem := by
  simp only [m6,Int.reduceEq,reduceIte] at h
  split at h
  . cases h
  . omega
theorem why8 {p : V.Prog} {s : V.State} {a b d : Int} (h : m6 p s ⟨8,a,b,d⟩ = 0) : l8 s a < p.mem := by
  simp only [m6,Int.reduceEq,reduceIte] at h
  split at h
  . cases h
  . omega
theorem why5 {p : V.Prog} {s : V.State} {a b d : Int} (h : m6 p s ⟨5,a,b,d⟩ = 0) : s.inn < p.inn := by
  simp only [m6,Int.reduceEq,reduceIte] at h
  split at h
  . cases h
  . omega
theorem qag {x : Int} {n : Nat} (h0 : 0 <= x) (h : x < n) : x.toNat < n := by omega
structure MOk (p : V.Prog) (s : V.State) : Prop where
  regs : s.regs.length = 4
  mem : (s.mem.length : Int) = p.mem
  pc : 0 <= s.pc /\ s.pc <= p.code.length
  stk : s.stack.length <= 3
  stw : ∀ n ∈ s.stack,0 <= n /\ n <= p.code.length
  inn : 0 <= s.inn /\ s.inn <= p.inn
  out : s.out.length <= 6
  steps : 0 <= s.steps /\ s.steps <= 400
  code : 0 <= s.code /\ s.code <= 8
  rw : ∀ x ∈ s.regs,wordP p.w x = true
  mw : ∀ x ∈ s.mem,wordP p.w x = true
  ow : ∀ x ∈ s.out,wordP p.w x = true
theorem mem_set {α : Type} {l : List α} {i : Nat} {v x : α} (h : x ∈ l.set i v) : x ∈ l \/ x = v := by
  rcases List.mem_or_eq_of_mem_set h with h|h
  . exact .inl h
  . exact .inr h
theorem qhk {l : List Int} {i : Nat} {v : Int} {Q : Int -> Prop} (h : ∀ x ∈ l,Q x) (hv : Q v) : ∀ x ∈ l.set i v,Q x := fun x hx=>by
  rcases mem_set hx with h1|h1
  . exact h x h1
  . exact h1 ▸ hv
theorem aS {l : List Int} {i : Nat} {Q : Int -> Prop} (h : ∀ x ∈ l,Q x) (hi : i < l.length) : Q (l.getD i K.ints.dflt) := by
  rw [List.getD_eq_getElem?_getD,List.getElem?_eq_getElem hi]
  exact h _ (List.getElem_mem hi)
theorem rQ {p : V.Prog} (h : i4 p = true) : inP p.w 1 16 = true /\ 2 <= p.w /\ p.w <= 8 /\ (p.code.length : Int) <= 40 /\ 1 <= (p.code.length : Int) /\ 0 <= p.inn /\ p.inn <= 3 := by
  simp [i4,inP] at h ⊢
  omega
theorem qb1 {p : V.Prog} (h : i4 p = true) {k : Nat} (hk : k < p.code.length) : j5 (p.code.getD k K.inss.dflt) p.w p.code.length = true := by
  simp only [i4,Bool.and_eq_true] at h
  have h2 := h.2
  rw [List.all_eq_true] at h2
  have := h2 (p.code[k]) (List.getElem_mem hk)
  rw [List.getD_eq_getElem?_getD,List.getElem?_eq_getElem hk]
  exact this
theorem perf_ok {p : V.Prog} {s : V.State} {op a b d : Int} {inp : List Int} (hp : i4 p = true) (hs : MOk p s) (hpc : s.pc < p.code.length) (hi : j5 ⟨op,a,b,d⟩ p.w p.code.length = true)
    (hy : m6 p s ⟨op,a,b,d⟩ = 0) (hin : (inp.length : Int) = p.inn) (hiw : ∀ x ∈ inp,wordP p.w x = true) : MOk p (aC p s ⟨op,a,b,d⟩ inp) := by
  obtain ⟨hw,w0,w1,c0,c1,i0,i1⟩ := rQ hp
  have ho := ins_op hi
  have pc0 := hs.pc
  have reg : ∀ {x : Int},0 <= x /\ x < 4 -> wordP p.w (l8 s x) = true := fun {x} hx=>aS hs.rw (by rw [hs.regs];omega)
  have setR : ∀ {v : Int},wordP p.w v = true -> MOk p { s with regs := s.regs.set a.toNat v,pc := s.pc + 1 } := fun {v} hv =>
    ⟨by simpa using hs.regs,hs.mem,⟨by show 0 <= s.pc + 1;omega,by show s.pc + 1 <= _;omega⟩,hs.stk,hs.stw,hs.inn,hs.out,hs.steps,hs.code,qhk hs.rw hv,hs.mw,hs.ow⟩
  have cases_op : op = 1 \/ op = 2 \/ op = 3 \/ op = 4 \/ op = 5 \/ op = 6 \/ op = 7 \/ op = 8 \/ op = 9 \/ op = 10 \/ op = 11 \/ op = 12 \/ op = 13 \/ op = 14 := by omega
  rcases cases_op with rfl|rfl|rfl|rfl|rfl|rfl|rfl|rfl|rfl|rfl|rfl|rfl|rfl|rfl
  . refine setR ?_
    simp [j5,kA] at hi
    exact hi.1.2
  . exact setR (reg (i8 hi (by simp)))
  . refine setR (qM ?_ (reg (ins_a hi (by simp))) (reg (i8 hi (by simp))))
    simp [j5,inP] at hi
    show 3 <= d /\ d <= 16
    omega
  . exact setR (qhc (reg (ins_a hi (by simp))))
  . have h5 := why5 hy
    have hm : MOk p { s with regs := s.regs.set a.toNat (inp.getD s.inn.toNat K.ints.dflt),pc := s.pc + 1 } := setR (aS hiw (by have := hs.inn;omega))
    exact ⟨hm.regs,hm.mem,hm.pc,hm.stk,hm.stw,⟨by show 0 <= s.inn + 1;have := hs.inn;omega,by show s.inn + 1 <= _;omega⟩,hm.out,hm.steps,hm.code,hm.rw,hm.mw,hm.ow⟩
  . have h6 : (s.out.length : Int) < 6 := by
      simp only [m6,Int.reduceEq,reduceIte] at hy
      split at hy
      . cases hy
      . omega
    refine ⟨hs.regs,hs.mem,⟨by show 0 <= s.pc + 1;omega,by show s.pc + 1 <= _;omega⟩,hs.stk,hs.stw,hs.inn, ?_,hs.steps,hs.code,hs.rw,hs.mw,fun x hx=>?_⟩
    . show (s.out ++ [_]).length <= 6
      simp;omega
    . have hx' : x ∈ s.out ++ [l8 s a] := hx
      rcases List.mem_append.1 hx' with h1|h1
      . exact hs.ow x h1
      . simp at h1;subst h1;exact reg (ins_a hi (by simp))
  . have h7 := why7 hy
    have r := u4 (reg (i8 hi (by simp)))
    exact setR (aS hs.mw (show (l8 s b).toNat < s.mem.length by have := hs.mem;omega))
  . have h8 := why8 hy
    exact ⟨hs.regs,by simpa [aC] using hs.mem,⟨by show 0 <= s.pc + 1;omega,by show s.pc + 1 <= _;omega⟩,hs.stk,hs.stw,hs.inn,hs.out,hs.steps,hs.code,hs.rw,qhk hs.mw (reg (i8 hi (by simp))),hs.ow⟩
  . have hb : 0 <= b /\ b <= p.code.length := by simp [j5,inP] at hi;omega
    exact ⟨hs.regs,hs.mem,hb,hs.stk,hs.stw,hs.inn,hs.out,hs.steps,hs.code,hs.rw,hs.mw,hs.ow⟩
  . have hb : 0 <= b /\ b <= p.code.length := by simp [j5,inP] at hi;omega
    refine ⟨hs.regs,hs.mem, ?_,hs.stk,hs.stw,hs.inn,hs.out,hs.steps,hs.code,hs.rw,hs.mw,hs.ow⟩
    show 0 <= (if l8 s a = 0 then b else s.pc + 1) /\ (if l8 s a = 0 then b else s.pc + 1) <= _
    split
    . exact hb
    . omega
  . have hb : 0 <= b /\ b <= p.code.length := by simp [j5,inP] at hi;omega
    have h11 : (s.stack.length : Int) < 3 := by
      simp only [m6,Int.reduceEq,reduceIte] at hy
      split at hy
      . cases hy
      . omega
    refine ⟨hs.regs,hs.mem,hb, ?_,fun x hx=>?_,hs.inn,hs.out,hs.steps,hs.code,hs.rw,hs.mw,hs.ow⟩
    . show (s.stack ++ [_]).length <= 3
      simp;omega
    . have hx' : x ∈ s.stack ++ [s.pc + 1] := hx
      rcases List.mem_append.1 hx' with h1|h1
      . exact hs.stw x h1
      . simp at h1;subst h1;omega
  . have h12 : ¬ (s.stack.length : Int) = 0 := by
      simp only [m6,Int.reduceEq,reduceIte] at hy
      split at hy
      . cases hy
      . assumption
    refine ⟨hs.regs,hs.mem, ?_, ?_,fun x hx=>hs.stw x (List.mem_of_mem_take hx),hs.inn,hs.out,hs.steps,hs.code,hs.rw,hs.mw,hs.ow⟩
    . exact aS (Q := fun n=>0 <= n /\ n <= p.code.length) hs.stw omG
    . show (s.stack.take _).length <= 3
      have := hs.stk
      simp;omega
  . exact ⟨hs.regs,hs.mem,⟨by show 0 <= s.pc + 1;omega,by show s.pc + 1 <= _;omega⟩,hs.stk,hs.stw,hs.inn,hs.out,hs.steps,hs.code,hs.rw,hs.mw,hs.ow⟩
  . exact ⟨hs.regs,hs.mem,hs.pc,hs.stk,hs.stw,hs.inn,hs.out,hs.steps,⟨by show (0 : Int) <= 1;decide,by show (1 : Int) <= 8;decide⟩,hs.rw,hs.mw,hs.ow⟩
theorem qhz {p : V.Prog} {s : V.State} {i : V.Ins} : 0 <= m6 p s i /\ m6 p s i <= 8 := by
  unfold m6
  repeat' split
  all_goals omega
theorem step_ok {p : V.Prog} {s : V.State} {inp : List Int} (hp : i4 p = true) (hs : MOk p s) (hin : (inp.length : Int) = p.inn) (hiw : ∀ x ∈ inp,wordP p.w x = true) : MOk p (bA p s inp) := by
  unfold bA
  by_cases h1 : s.code = 0 /\ s.steps < 400
  . rw [if_pos h1]
    by_cases h2 : s.pc = (p.code.length : Int)
    . rw [if_pos h2]
      exact ⟨hs.regs,hs.mem,hs.pc,hs.stk,hs.stw,hs.inn,hs.out,hs.steps,⟨by show (0 : Int) <= 2;decide,by show (2 : Int) <= 8;decide⟩,hs.rw,hs.mw,hs.ow⟩
    rw [if_neg h2]
    have hpc := hs.pc
    have h0 := hs.steps
    have hs1 : MOk p { s with steps := s.steps + 1 } := ⟨hs.regs,hs.mem,hs.pc,hs.stk,hs.stw,hs.inn,hs.out,⟨by show 0 <= s.steps + 1;omega,by show s.steps + 1 <= 400;omega⟩,hs.code,hs.rw,hs.mw,hs.ow⟩
    have hk : s.pc.toNat < p.code.length := by omega
    have hi := qb1 hp hk
    generalize p.code.getD s.pc.toNat K.inss.dflt = i at hi ⊢
    obtain ⟨op,a,b,d⟩ := i
    by_cases h3 : m6 p { s with steps := s.steps + 1 } ⟨op,a,b,d⟩ = 0
    . rw [if_pos h3]
      exact perf_ok hp hs1 (by show s.pc < _;omega) hi h3 hin hiw
    . rw [if_neg h3]
      exact ⟨hs1.regs,hs1.mem,hs1.pc,hs1.stk,hs1.stw,hs1.inn,hs1.out,hs1.steps,qhz,hs1.rw,hs1.mw,hs1.ow⟩
  . rw [if_neg h1];exact hs
set_option maxRecDepth 100000
set_option maxHeartbeats 40000000
theorem qi4 (w mem inn : Int) (c : List V.Ins) (pc : Int) (regs cells stack : List Int) (sin : Int) (out : List Int) (code steps : Int) (op a b d : Int) (hi : j5 ⟨op,a,b,d⟩ w c.length = true) (hr : regs.length = 4) (hsi : 0 <= sin /\ sin <= inn) (hso : out.length <= 6) (hst : stack.length <= 3) : CallsV Tryz.prog 78 [.agg [.dat (.i w),.dat (.i mem),.dat (.i inn),.dat (.seq .inss c)],.agg [.dat (.i pc),.dat (.seq .ints regs),.dat (.seq .ints cells),.dat (.seq .ints stack),.dat (.i sin),.dat (.seq .ints out),.dat (.i code),.dat (.i steps)],.agg [.dat (.i op),.dat (.i a),.dat (.i b),.dat (.i d)]] (.dat (.i (if op = 14 then 1 else m6 ⟨w,mem,inn,c⟩ ⟨pc,regs,cells,stack,sin,out,code,steps⟩ ⟨op,a,b,d⟩))) := by
  refine oV Tryz.func78 ⟨?_⟩
  repeat' (first|((with_reducible refine fun (K1 : KT) hK=>?_);refine w5 ⟨?_⟩)|((with_reducible show K1 _ _);subst hK;conv=>whnf)|refine st0 ⟨?_⟩|((with_reducible refine SplS.mk (fun h=>?_) (fun h=>?_)) <;> first|exact o4|(subst h;conv=>whnf)|(conv=>whnf))|refine f2 ⟨?_⟩ ⟨?_⟩|(intro h;conv=>whnf))
  all_goals repeat clear hK K1
  all_goals first
    | rfl
    | (have := i8 hi (by simp);omega)
    | (have := ins_a hi (by simp);omega)
    | (refine congrArg Dat.i ?_
       simp only [m6,l8,Int.reduceEq,reduceIte]
       first
         | omega
         | (split <;> omega))
    | (refine congrArg Dat.i ?_
       simp [m6]
       exact h)
theorem both {p q : Prop} [Decidable p] [Decidable q] (h : (decide p && decide q) = true) : p /\ q := by simpa using h
theorem word_nn {w x : Int} (h : wordP w x = true) : 0 <= x := by
  simp only [wordP,inP,Bool.and_eq_true,decide_eq_true_eq] at h;exact h.2.1
theorem fN {p : V.Prog} {s : V.State} {inp : List Int} (h : ¬ (s.code = 0 /\ s.steps < 400)) : bA p s inp = s := by unfold bA;rw [if_neg h]
theorem qau {p : V.Prog} {s : V.State} {inp : List Int} (h : s.code = 0 /\ s.steps < 400) (h2 : s.pc = (p.code.length : Int)) : bA p s inp = { s with code := 2 } := by unfold bA;rw [if_pos h,if_pos h2]
theorem qat {p : V.Prog} {s : V.State} {inp : List Int} (h : s.code = 0 /\ s.steps < 400) (h2 : ¬ s.pc = (p.code.length : Int)) (h3 : m6 p { s with steps := s.steps + 1 } (p.code.getD s.pc.toNat K.inss.dflt) = 0) :
    bA p s inp = aC p { s with steps := s.steps + 1 } (p.code.getD s.pc.toNat K.inss.dflt) inp := by unfold bA;rw [if_pos h,if_neg h2,if_pos h3]
theorem step_3 {p : V.Prog} {s : V.State} {inp : List Int} (h : s.code = 0 /\ s.steps < 400) (h2 : ¬ s.pc = (p.code.length : Int)) (h3 : ¬ m6 p { s with steps := s.steps + 1 } (p.code.getD s.pc.toNat K.inss.dflt) = 0) :
    bA p s inp = { s with steps := s.steps + 1,code := m6 p { s with steps := s.steps + 1 } (p.code.getD s.pc.toNat K.inss.dflt) } := by unfold bA;rw [if_pos h,if_neg h2,if_neg h3]
def avS (s : V.State) : AV := .agg [.dat (.i s.pc),.row 0,.row 1,.row 2,.dat (.i s.inn),.row 3,.dat (.i s.code),.dat (.i s.steps)]
def uH (s : V.State) : List Blk := [.row 3 .ints s.regs false,.row 3 .ints s.mem false,.row 3 .ints s.stack false,.row 3 .ints s.out false]
def datS (s : V.State) : AV := .agg [.dat (.i s.pc),.dat (.seq .ints s.regs),.dat (.seq .ints s.mem),.dat (.seq .ints s.stack),.dat (.i s.inn),.dat (.seq .ints s.out),.dat (.i s.code),.dat (.i s.steps)]
theorem qh0 {op x : Int} (h : (if op = 14 then 1 else x) = 0) : ¬ op = 14 /\ x = 0 := by
  split at h
  . cases h
  . exact ⟨by assumption,h⟩
theorem step_at {w mem inn : Int} {c : List V.Ins} {pc : Int} {regs cells stack : List Int} {sin : Int} {out : List Int} {steps : Int} {inp : List Int} {op a b d : Int} (hI : c.getD pc.toNat K.inss.dflt = ⟨op,a,b,d⟩)
    (h4 : steps < 400) (hpc : ¬ pc = (c.length : Int)) (hy : m6 ⟨w,mem,inn,c⟩ ⟨pc,regs,cells,stack,sin,out,0,steps + 1⟩ ⟨op,a,b,d⟩ = 0) :
    bA ⟨w,mem,inn,c⟩ ⟨pc,regs,cells,stack,sin,out,0,steps⟩ inp = aC ⟨w,mem,inn,c⟩ ⟨pc,regs,cells,stack,sin,out,0,steps + 1⟩ ⟨op,a,b,d⟩ inp := by
  rw [qat ⟨rfl,h4⟩ hpc (by rw [hI];exact hy),hI]
theorem qar {w mem inn : Int} {c : List V.Ins} {pc : Int} {regs cells stack : List Int} {sin : Int} {out : List Int} {steps : Int} {inp : List Int} {op a b d : Int} (hI : c.getD pc.toNat K.inss.dflt = ⟨op,a,b,d⟩)
    (h4 : steps < 400) (hpc : ¬ pc = (c.length : Int)) (hy : ¬ (if op = 14 then 1 else m6 ⟨w,mem,inn,c⟩ ⟨pc,regs,cells,stack,sin,out,0,steps + 1⟩ ⟨op,a,b,d⟩) = 0) :
    bA ⟨w,mem,inn,c⟩ ⟨pc,regs,cells,stack,sin,out,0,steps⟩ inp = ⟨pc,regs,cells,stack,sin,out,if op = 14 then 1 else m6 ⟨w,mem,inn,c⟩ ⟨pc,regs,cells,stack,sin,out,0,steps + 1⟩ ⟨op,a,b,d⟩,steps + 1⟩ := by
  by_cases ho : op = 14
  . subst ho
    rw [qat ⟨rfl,h4⟩ hpc (by rw [hI];rfl),hI]
    rfl
  . rw [if_neg ho] at hy ⊢
    rw [step_3 ⟨rfl,h4⟩ hpc (by rw [hI];exact hy),hI]
theorem qi5 (w mem inn : Int) (c : List V.Ins) (pc : Int) (regs cells stack : List Int) (sin : Int) (out : List Int) (code steps : Int) (inp : List Int) (hp : i4 ⟨w,mem,inn,c⟩ = true) (hM : MOk ⟨w,mem,inn,c⟩ ⟨pc,regs,cells,stack,sin,out,code,steps⟩) (hin : (inp.length : Int) = inn) (_hiw : ∀ x ∈ inp,wordP w x = true) : CallsG Tryz.prog 41 [.agg [.dat (.i w),.dat (.i mem),.dat (.i inn),.dat (.seq .inss c)],.agg [.dat (.i pc),.row 0,.row 1,.row 2,.dat (.i sin),.row 3,.dat (.i code),.dat (.i steps)],.dat (.seq .ints inp)] [.row 3 .ints regs false,.row 3 .ints cells false,.row 3 .ints stack false,.row 3 .ints out false] 0 (fun res B=>res = avS (bA ⟨w,mem,inn,c⟩ ⟨pc,regs,cells,stack,sin,out,code,steps⟩ inp) /\ B = uH (bA ⟨w,mem,inn,c⟩ ⟨pc,regs,cells,stack,sin,out,code,steps⟩ inp)) := by
  refine oG Tryz.func41 ⟨?_⟩
  repeat' (first|((with_reducible refine fun (K1 : KT) hK=>?_);refine w5 ⟨?_⟩)|((with_reducible show K1 _ _);subst hK;conv=>whnf)|(with_reducible exact rfl)|refine st0 ⟨?_⟩|((with_reducible refine SplS.mk (fun h=>?_) (fun h=>?_)) <;> first|exact o4|(subst h;conv=>whnf)|(conv=>whnf))|refine f2 ⟨?_⟩ ⟨?_⟩|refine vP (qi4 (hi := ?_) (hr := ?_) (hsi := ?_) (hso := ?_) (hst := ?_) ..) ⟨?_⟩|refine vE (oQ ..) ⟨?_⟩|refine vE (qbf ..) ⟨?_⟩|(intro h;conv=>whnf))
  all_goals repeat clear hK K1
  all_goals first|exact (congrArg uH (fN (p := ⟨w,mem,inn,c⟩) (s := ⟨pc,regs,cells,stack,sin,out,code,steps⟩) (inp := inp) (fun x=>absurd x.1 h))).symm|exact (congrArg avS (fN (p := ⟨w,mem,inn,c⟩) (s := ⟨pc,regs,cells,stack,sin,out,code,steps⟩) (inp := inp) (fun x=>absurd x.1 h))).symm|exact (congrArg uH (fN (p := ⟨w,mem,inn,c⟩) (s := ⟨pc,regs,cells,stack,sin,out,0,400⟩) (inp := inp) (fun x=>Int.lt_irrefl _ x.2))).symm|exact (congrArg avS (fN (p := ⟨w,mem,inn,c⟩) (s := ⟨pc,regs,cells,stack,sin,out,0,400⟩) (inp := inp) (fun x=>Int.lt_irrefl _ x.2))).symm|exact (congrArg uH (qau (p := ⟨w,mem,inn,c⟩) (s := ⟨c.length,regs,cells,stack,sin,out,0,steps⟩) (inp := inp) ⟨rfl,by have := hM.steps;simp only at this;show steps < 400;omega⟩ rfl)).symm|exact (congrArg avS (qau (p := ⟨w,mem,inn,c⟩) (s := ⟨c.length,regs,cells,stack,sin,out,0,steps⟩) (inp := inp) ⟨rfl,by have := hM.steps;simp only at this;show steps < 400;omega⟩ rfl)).symm|skip
  all_goals
    have q1 : 0 <= pc /\ pc <= c.length := hM.pc
    have hsi : 0 <= sin /\ sin <= inn := hM.inn
    have q3 : 0 <= steps /\ steps <= 400 := hM.steps
    have hst : stack.length <= 3 := hM.stk
    have hso : out.length <= 6 := hM.out
    have hr : regs.length = 4 := hM.regs
    have hm : (cells.length : Int) = mem := hM.mem
    obtain ⟨_,q4,q5,q6,q7,q8,q9⟩ := rQ hp
    simp only at q4 q5 q6 q7 q8 q9
    have e1 : IntKind.i64.wrap (pc + 1) = pc + 1 := j3 omG omG
    have e2 : IntKind.i64.wrap (sin + 1) = sin + 1 := j3 omG omG
    have e5 : IntKind.i64.wrap (steps + 1) = steps + 1 := j3 omG omG
    have hm' : maxLen = 9223372036854775807 := rfl
    have hw : ∀ x ∈ regs,0 <= x := fun x hx=>word_nn (hM.rw x hx)
    have h4 : steps < 400 := by omega
    have hpc : ¬ pc = (c.length : Int) := by assumption
    have hi : j5 (c.getD pc.toNat K.inss.dflt) w c.length = true := qb1 (p := ⟨w,mem,inn,c⟩) (k := pc.toNat) hp (by show pc.toNat < c.length;omega)
    generalize hI : c.getD pc.toNat K.inss.dflt = i at *
    obtain ⟨op,a,b,d⟩ := i
    simp only [e5] at *
  all_goals first|omega|exact (congrArg uH (qar hI h4 hpc (by assumption))).symm|exact (congrArg avS (qar hI h4 hpc (by assumption))).symm|skip
  all_goals
    obtain ⟨h14,hy⟩ := qh0 (by assumption)
    try rw [step_at hI h4 hpc hy]
    try clear hM
    try simp only [hI] at *
  all_goals
    try subst_vars
    first
      | assumption
      | rfl
      | omega
      | (obtain ⟨q1,q2⟩ := i8 hi (Or.inl rfl);omega)
      | (obtain ⟨q1,q2⟩ := i8 hi (Or.inr (Or.inl rfl));omega)
      | (obtain ⟨q1,q2⟩ := i8 hi (Or.inr (Or.inr (Or.inl rfl)));omega)
      | (obtain ⟨q1,q2⟩ := i8 hi (Or.inr (Or.inr (Or.inr rfl)));omega)
      | (obtain ⟨q1,q2⟩ := ins_a hi (by first|exact Or.inl rfl|exact Or.inr (Or.inl rfl)|exact Or.inr (Or.inr (Or.inl rfl))|exact Or.inr (Or.inr (Or.inr (Or.inl rfl)))|exact Or.inr (Or.inr (Or.inr (Or.inr (Or.inl rfl))))|exact Or.inr (Or.inr (Or.inr (Or.inr (Or.inr (Or.inl rfl)))))|exact Or.inr (Or.inr (Or.inr (Or.inr (Or.inr (Or.inr (Or.inl rfl))))))|exact Or.inr (Or.inr (Or.inr (Or.inr (Or.inr (Or.inr (Or.inr (Or.inl rfl)))))))|exact Or.inr (Or.inr (Or.inr (Or.inr (Or.inr (Or.inr (Or.inr (Or.inr (Or.inl rfl)))))))));omega)
      | exact tV hw _
      | (have hq : sin < _ := why5 hy;omega)
      | (have hq := why7 hy;simp only at hq;first|exact hq|exact qag (tV hw _) hq)
      | (have hq := why8 hy;simp only at hq;first|exact hq|exact qag (tV hw _) hq)
      | (simp only [m6,l8,Int.reduceEq,reduceIte] at hy
         split at hy <;> omega)
      | (have e3 : IntKind.i64.wrap ((stack.length : Int) - 1) = stack.length - 1 := j3 omG omG
         simp only [m6,l8,Int.reduceEq,reduceIte] at hy
         rw [e3]
         split at hy <;> omega)
      | (show (out.length + [_].length) * 8 <= _;simp;omega)
      | (show out.length + [_].length <= _;simp;omega)
      | (show (stack.length + [_].length) * 8 <= _;simp;omega)
      | (show stack.length + [_].length <= _;simp;omega)
      | (simp only [uH,avS,aC,l8,Int.reduceEq,reduceIte, *];done)
      | (simp only [uH,avS,aC,l8,Int.reduceEq,reduceIte];rfl)
      | (have e3 : IntKind.i64.wrap ((stack.length : Int) - 1) = stack.length - 1 := j3 omG omG
         have e4 : ((stack.length : Int) - 1).toNat = stack.length - 1 := by omega
         simp only [uH,avS,aC,Int.reduceEq,reduceIte,e3,e4,hy])
      | skip
end Vg
