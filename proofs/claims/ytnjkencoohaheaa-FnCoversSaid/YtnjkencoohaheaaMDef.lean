/- The machine in plain words: why an instruction cannot be done, what it does, a step. No condition. -/
import Derived.Test.YtnjkencoohaheaaClosed
namespace Vg
open Go Go.Proofs

def rgs (s : V.State) (i : Int) : Int := s.regs.getD i.toNat K.ints.dflt
/-- why an instruction cannot be done -/
def whyP (p : V.Prog) (s : V.State) (i : V.Ins) : Int :=
  if i.op = 5 then (if p.inn ≤ s.inn then 3 else 0)
  else if i.op = 6 then (if 6 ≤ (s.out.length : Int) then 4 else 0)
  else if i.op = 7 then (if p.mem ≤ rgs s i.b then 5 else 0)
  else if i.op = 8 then (if p.mem ≤ rgs s i.a then 5 else 0)
  else if i.op = 3 then (if (i.c = 6 ∨ i.c = 7) ∧ rgs s i.b = 0 then 6 else 0)
  else if i.op = 11 then (if 3 ≤ (s.stack.length : Int) then 7 else 0)
  else if i.op = 12 then (if (s.stack.length : Int) = 0 then 7 else 0)
  else if i.op = 13 then (if rgs s i.a = 0 then 8 else 0)
  else 0
/-- an instruction that can be done -/
def perfP (p : V.Prog) (s : V.State) (i : V.Ins) (inp : List Int) : V.State :=
  if i.op = 1 then { s with regs := s.regs.set i.a.toNat i.b, pc := s.pc + 1 }
  else if i.op = 2 then { s with regs := s.regs.set i.a.toNat (rgs s i.b), pc := s.pc + 1 }
  else if i.op = 3 then { s with regs := s.regs.set i.a.toNat (applyB i.c p.w (rgs s i.a) (rgs s i.b)), pc := s.pc + 1 }
  else if i.op = 4 then { s with regs := s.regs.set i.a.toNat (applyU 1 p.w (rgs s i.a)), pc := s.pc + 1 }
  else if i.op = 5 then { s with regs := s.regs.set i.a.toNat (inp.getD s.inn.toNat K.ints.dflt), inn := s.inn + 1, pc := s.pc + 1 }
  else if i.op = 6 then { s with out := s.out ++ [rgs s i.a], pc := s.pc + 1 }
  else if i.op = 7 then { s with regs := s.regs.set i.a.toNat (s.mem.getD (rgs s i.b).toNat K.ints.dflt), pc := s.pc + 1 }
  else if i.op = 8 then { s with mem := s.mem.set (rgs s i.a).toNat (rgs s i.b), pc := s.pc + 1 }
  else if i.op = 9 then { s with pc := i.b }
  else if i.op = 10 then { s with pc := if rgs s i.a = 0 then i.b else s.pc + 1 }
  else if i.op = 11 then { s with stack := s.stack ++ [s.pc + 1], pc := i.b }
  else if i.op = 12 then { s with pc := s.stack.getD (s.stack.length - 1) K.ints.dflt, stack := s.stack.take (s.stack.length - 1) }
  else if i.op = 14 then { s with code := 1 }
  else { s with pc := s.pc + 1 }
def stepM (p : V.Prog) (s : V.State) (inp : List Int) : V.State :=
  if s.code = 0 ∧ s.steps < 400 then
    if s.pc = (p.code.length : Int) then { s with code := 2 }
    else if whyP p { s with steps := s.steps + 1 } (p.code.getD s.pc.toNat K.inss.dflt) = 0 then perfP p { s with steps := s.steps + 1 } (p.code.getD s.pc.toNat K.inss.dflt) inp
    else { s with steps := s.steps + 1, code := whyP p { s with steps := s.steps + 1 } (p.code.getD s.pc.toNat K.inss.dflt) }
  else s
def boxS (s : V.State) : List Blk := [.box [.dat (.i s.pc), .row 1, .row 2, .row 3, .dat (.i s.inn), .row 4, .dat (.i s.code), .dat (.i s.steps)], .row 3 .ints s.regs false, .row 3 .ints s.mem false, .row 3 .ints s.stack false, .row 3 .ints s.out false]

theorem ins_a {op a b d w n : Int} (h : insP ⟨op, a, b, d⟩ w n = true) (ho : op = 1 ∨ op = 2 ∨ op = 3 ∨ op = 4 ∨ op = 5 ∨ op = 6 ∨ op = 7 ∨ op = 8 ∨ op = 10 ∨ op = 13) : 0 ≤ a ∧ a < 4 := by
  rcases ho with rfl | rfl | rfl | rfl | rfl | rfl | rfl | rfl | rfl | rfl <;> simp [insP, regP, inP] at h <;> omega
theorem ins_b {op a b d w n : Int} (h : insP ⟨op, a, b, d⟩ w n = true) (ho : op = 2 ∨ op = 3 ∨ op = 7 ∨ op = 8) : 0 ≤ b ∧ b < 4 := by
  rcases ho with rfl | rfl | rfl | rfl <;> simp [insP, regP, inP] at h <;> omega
theorem ins_op {op a b d w n : Int} (h : insP ⟨op, a, b, d⟩ w n = true) : 1 ≤ op ∧ op ≤ 14 := by
  by_cases ho : 1 ≤ op ∧ op ≤ 14
  · exact ho
  · simp only [insP, show ¬ op = 1 from by omega, show ¬ op = 2 from by omega, show ¬ op = 3 from by omega, show ¬ op = 4 from by omega, show ¬ op = 5 from by omega, show ¬ op = 6 from by omega, show ¬ op = 7 from by omega, show ¬ op = 8 from by omega, show ¬ op = 9 from by omega, show ¬ op = 10 from by omega, show ¬ op = 11 from by omega, show ¬ op = 12 from by omega, show ¬ op = 13 from by omega, show ¬ op = 14 from by omega, or_self, if_false] at h
    cases h

theorem nn_getD {l : List Int} (h : ∀ x ∈ l, 0 ≤ x) (i : Int) : 0 ≤ l.getD i.toNat K.ints.dflt := by
  rw [List.getD_eq_getElem?_getD]
  cases hi : l[i.toNat]? with
  | none => exact Int.le_refl 0
  | some x => exact h x (List.mem_of_getElem? hi)
theorem why7 {p : V.Prog} {s : V.State} {a b d : Int} (h : whyP p s ⟨7, a, b, d⟩ = 0) : rgs s b < p.mem := by
  simp only [whyP, Int.reduceEq, reduceIte] at h
  split at h
  · cases h
  · omega
theorem why8 {p : V.Prog} {s : V.State} {a b d : Int} (h : whyP p s ⟨8, a, b, d⟩ = 0) : rgs s a < p.mem := by
  simp only [whyP, Int.reduceEq, reduceIte] at h
  split at h
  · cases h
  · omega
theorem why5 {p : V.Prog} {s : V.State} {a b d : Int} (h : whyP p s ⟨5, a, b, d⟩ = 0) : s.inn < p.inn := by
  simp only [whyP, Int.reduceEq, reduceIte] at h
  split at h
  · cases h
  · omega
theorem toNat_lt' {x : Int} {n : Nat} (h0 : 0 ≤ x) (h : x < n) : x.toNat < n := by omega
end Vg
