/- A step of the machine keeps a state in order. No condition. -/
import Derived.Test.YtnjkencoohaheaaMDef
namespace Vg
open Go Go.Proofs

structure MOk (p : V.Prog) (s : V.State) : Prop where
  regs : s.regs.length = 4
  mem : (s.mem.length : Int) = p.mem
  pc : 0 ≤ s.pc ∧ s.pc ≤ p.code.length
  stk : s.stack.length ≤ 3
  stw : ∀ n ∈ s.stack, 0 ≤ n ∧ n ≤ p.code.length
  inn : 0 ≤ s.inn ∧ s.inn ≤ p.inn
  out : s.out.length ≤ 6
  steps : 0 ≤ s.steps ∧ s.steps ≤ 400
  code : 0 ≤ s.code ∧ s.code ≤ 8
  rw : ∀ x ∈ s.regs, wordP p.w x = true
  mw : ∀ x ∈ s.mem, wordP p.w x = true
  ow : ∀ x ∈ s.out, wordP p.w x = true

theorem mem_set {α : Type} {l : List α} {i : Nat} {v x : α} (h : x ∈ l.set i v) : x ∈ l ∨ x = v := by
  rcases List.mem_or_eq_of_mem_set h with h | h
  · exact .inl h
  · exact .inr h
theorem all_set {l : List Int} {i : Nat} {v : Int} {Q : Int → Prop} (h : ∀ x ∈ l, Q x) (hv : Q v) : ∀ x ∈ l.set i v, Q x := fun x hx => by
  rcases mem_set hx with h1 | h1
  · exact h x h1
  · exact h1 ▸ hv
theorem getD_all {l : List Int} {i : Nat} {Q : Int → Prop} (h : ∀ x ∈ l, Q x) (hi : i < l.length) : Q (l.getD i K.ints.dflt) := by
  rw [List.getD_eq_getElem?_getD, List.getElem?_eq_getElem hi]
  exact h _ (List.getElem_mem hi)
theorem prog_w {p : V.Prog} (h : progP p = true) : inP p.w 1 16 = true ∧ 2 ≤ p.w ∧ p.w ≤ 8 ∧ (p.code.length : Int) ≤ 40 ∧ 1 ≤ (p.code.length : Int) ∧ 0 ≤ p.inn ∧ p.inn ≤ 3 := by
  simp [progP, inP] at h ⊢
  omega
theorem prog_ins {p : V.Prog} (h : progP p = true) {k : Nat} (hk : k < p.code.length) : insP (p.code.getD k K.inss.dflt) p.w p.code.length = true := by
  simp only [progP, Bool.and_eq_true] at h
  have h2 := h.2
  rw [List.all_eq_true] at h2
  have := h2 (p.code[k]) (List.getElem_mem hk)
  rw [List.getD_eq_getElem?_getD, List.getElem?_eq_getElem hk]
  exact this

theorem perf_ok {p : V.Prog} {s : V.State} {op a b d : Int} {inp : List Int} (hp : progP p = true) (hs : MOk p s) (hpc : s.pc < p.code.length) (hi : insP ⟨op, a, b, d⟩ p.w p.code.length = true)
    (hy : whyP p s ⟨op, a, b, d⟩ = 0) (hin : (inp.length : Int) = p.inn) (hiw : ∀ x ∈ inp, wordP p.w x = true) : MOk p (perfP p s ⟨op, a, b, d⟩ inp) := by
  obtain ⟨hw, w0, w1, c0, c1, i0, i1⟩ := prog_w hp
  have ho := ins_op hi
  have pc0 := hs.pc
  have reg : ∀ {x : Int}, 0 ≤ x ∧ x < 4 → wordP p.w (rgs s x) = true := fun {x} hx => getD_all hs.rw (by rw [hs.regs]; omega)
  have setR : ∀ {v : Int}, wordP p.w v = true → MOk p { s with regs := s.regs.set a.toNat v, pc := s.pc + 1 } := fun {v} hv =>
    ⟨by simpa using hs.regs, hs.mem, ⟨by show 0 ≤ s.pc + 1; omega, by show s.pc + 1 ≤ _; omega⟩, hs.stk, hs.stw, hs.inn, hs.out, hs.steps, hs.code, all_set hs.rw hv, hs.mw, hs.ow⟩
  have cases_op : op = 1 ∨ op = 2 ∨ op = 3 ∨ op = 4 ∨ op = 5 ∨ op = 6 ∨ op = 7 ∨ op = 8 ∨ op = 9 ∨ op = 10 ∨ op = 11 ∨ op = 12 ∨ op = 13 ∨ op = 14 := by omega
  rcases cases_op with rfl | rfl | rfl | rfl | rfl | rfl | rfl | rfl | rfl | rfl | rfl | rfl | rfl | rfl
  · refine setR ?_
    simp [insP, regP] at hi
    exact hi.1.2
  · exact setR (reg (ins_b hi (by simp)))
  · refine setR (applyB_word ?_ (reg (ins_a hi (by simp))) (reg (ins_b hi (by simp))))
    simp [insP, inP] at hi
    show 3 ≤ d ∧ d ≤ 16
    omega
  · exact setR (applyU_word (reg (ins_a hi (by simp))))
  · have h5 := why5 hy
    have hm : MOk p { s with regs := s.regs.set a.toNat (inp.getD s.inn.toNat K.ints.dflt), pc := s.pc + 1 } := setR (getD_all hiw (by have := hs.inn; omega))
    exact ⟨hm.regs, hm.mem, hm.pc, hm.stk, hm.stw, ⟨by show 0 ≤ s.inn + 1; have := hs.inn; omega, by show s.inn + 1 ≤ _; omega⟩, hm.out, hm.steps, hm.code, hm.rw, hm.mw, hm.ow⟩
  · have h6 : (s.out.length : Int) < 6 := by
      simp only [whyP, Int.reduceEq, reduceIte] at hy
      split at hy
      · cases hy
      · omega
    refine ⟨hs.regs, hs.mem, ⟨by show 0 ≤ s.pc + 1; omega, by show s.pc + 1 ≤ _; omega⟩, hs.stk, hs.stw, hs.inn, ?_, hs.steps, hs.code, hs.rw, hs.mw, fun x hx => ?_⟩
    · show (s.out ++ [_]).length ≤ 6
      simp; omega
    · have hx' : x ∈ s.out ++ [rgs s a] := hx
      rcases List.mem_append.1 hx' with h1 | h1
      · exact hs.ow x h1
      · simp at h1; subst h1; exact reg (ins_a hi (by simp))
  · have h7 := why7 hy
    have r := word_lo (reg (ins_b hi (by simp)))
    exact setR (getD_all hs.mw (show (rgs s b).toNat < s.mem.length by have := hs.mem; omega))
  · have h8 := why8 hy
    exact ⟨hs.regs, by simpa [perfP] using hs.mem, ⟨by show 0 ≤ s.pc + 1; omega, by show s.pc + 1 ≤ _; omega⟩, hs.stk, hs.stw, hs.inn, hs.out, hs.steps, hs.code, hs.rw, all_set hs.mw (reg (ins_b hi (by simp))), hs.ow⟩
  · have hb : 0 ≤ b ∧ b ≤ p.code.length := by simp [insP, inP] at hi; omega
    exact ⟨hs.regs, hs.mem, hb, hs.stk, hs.stw, hs.inn, hs.out, hs.steps, hs.code, hs.rw, hs.mw, hs.ow⟩
  · have hb : 0 ≤ b ∧ b ≤ p.code.length := by simp [insP, inP] at hi; omega
    refine ⟨hs.regs, hs.mem, ?_, hs.stk, hs.stw, hs.inn, hs.out, hs.steps, hs.code, hs.rw, hs.mw, hs.ow⟩
    show 0 ≤ (if rgs s a = 0 then b else s.pc + 1) ∧ (if rgs s a = 0 then b else s.pc + 1) ≤ _
    split
    · exact hb
    · omega
  · have hb : 0 ≤ b ∧ b ≤ p.code.length := by simp [insP, inP] at hi; omega
    have h11 : (s.stack.length : Int) < 3 := by
      simp only [whyP, Int.reduceEq, reduceIte] at hy
      split at hy
      · cases hy
      · omega
    refine ⟨hs.regs, hs.mem, hb, ?_, fun x hx => ?_, hs.inn, hs.out, hs.steps, hs.code, hs.rw, hs.mw, hs.ow⟩
    · show (s.stack ++ [_]).length ≤ 3
      simp; omega
    · have hx' : x ∈ s.stack ++ [s.pc + 1] := hx
      rcases List.mem_append.1 hx' with h1 | h1
      · exact hs.stw x h1
      · simp at h1; subst h1; omega
  · have h12 : ¬ (s.stack.length : Int) = 0 := by
      simp only [whyP, Int.reduceEq, reduceIte] at hy
      split at hy
      · cases hy
      · assumption
    refine ⟨hs.regs, hs.mem, ?_, ?_, fun x hx => hs.stw x (List.mem_of_mem_take hx), hs.inn, hs.out, hs.steps, hs.code, hs.rw, hs.mw, hs.ow⟩
    · exact getD_all (Q := fun n => 0 ≤ n ∧ n ≤ p.code.length) hs.stw (by omega)
    · show (s.stack.take _).length ≤ 3
      have := hs.stk
      simp; omega
  · exact ⟨hs.regs, hs.mem, ⟨by show 0 ≤ s.pc + 1; omega, by show s.pc + 1 ≤ _; omega⟩, hs.stk, hs.stw, hs.inn, hs.out, hs.steps, hs.code, hs.rw, hs.mw, hs.ow⟩
  · exact ⟨hs.regs, hs.mem, hs.pc, hs.stk, hs.stw, hs.inn, hs.out, hs.steps, ⟨by show (0 : Int) ≤ 1; decide, by show (1 : Int) ≤ 8; decide⟩, hs.rw, hs.mw, hs.ow⟩
theorem why_code {p : V.Prog} {s : V.State} {i : V.Ins} : 0 ≤ whyP p s i ∧ whyP p s i ≤ 8 := by
  unfold whyP
  repeat' split
  all_goals omega
theorem step_ok {p : V.Prog} {s : V.State} {inp : List Int} (hp : progP p = true) (hs : MOk p s) (hin : (inp.length : Int) = p.inn) (hiw : ∀ x ∈ inp, wordP p.w x = true) : MOk p (stepM p s inp) := by
  unfold stepM
  by_cases h1 : s.code = 0 ∧ s.steps < 400
  · rw [if_pos h1]
    by_cases h2 : s.pc = (p.code.length : Int)
    · rw [if_pos h2]
      exact ⟨hs.regs, hs.mem, hs.pc, hs.stk, hs.stw, hs.inn, hs.out, hs.steps, ⟨by show (0 : Int) ≤ 2; decide, by show (2 : Int) ≤ 8; decide⟩, hs.rw, hs.mw, hs.ow⟩
    rw [if_neg h2]
    have hpc := hs.pc
    have h0 := hs.steps
    have hs1 : MOk p { s with steps := s.steps + 1 } := ⟨hs.regs, hs.mem, hs.pc, hs.stk, hs.stw, hs.inn, hs.out, ⟨by show 0 ≤ s.steps + 1; omega, by show s.steps + 1 ≤ 400; omega⟩, hs.code, hs.rw, hs.mw, hs.ow⟩
    have hk : s.pc.toNat < p.code.length := by omega
    have hi := prog_ins hp hk
    generalize p.code.getD s.pc.toNat K.inss.dflt = i at hi ⊢
    obtain ⟨op, a, b, d⟩ := i
    by_cases h3 : whyP p { s with steps := s.steps + 1 } ⟨op, a, b, d⟩ = 0
    · rw [if_pos h3]
      exact perf_ok hp hs1 (by show s.pc < _; omega) hi h3 hin hiw
    · rw [if_neg h3]
      exact ⟨hs1.regs, hs1.mem, hs1.pc, hs1.stk, hs1.stw, hs1.inn, hs1.out, hs1.steps, why_code, hs1.rw, hs1.mw, hs1.ow⟩
  · rw [if_neg h1]; exact hs
end Vg
