/- The machine in plain words: why an instruction cannot be done, what it does, a step. No condition. -/
import Derived.Test.YtfjkpndogncdcaaGreatDoorRedQ
namespace Vg
open Go Go.Proofs
def l9 (s : V.State) (i : Int) : Int := s.regs.getD i.toNat K.ints.dflt
def u6 (p : V.Prog) (s : V.State) (i : V.Ins) : Int :=
  if i.op = 5 then (if p.inn <= s.inn then 3 else 0)
  else if i.op = 6 then (if 6 <= (s.out.length : Int) then 4 else 0)
  else if i.op = 7 then (if p.mem <= l9 s i.b then 5 else 0)
  else if i.op = 8 then (if p.mem <= l9 s i.a then 5 else 0)
  else if i.op = 3 then (if (i.c = 6 \/ i.c = 7) /\ l9 s i.b = 0 then 6 else 0)
  else if i.op = 11 then (if 3 <= (s.stack.length : Int) then 7 else 0)
  else if i.op = 12 then (if (s.stack.length : Int) = 0 then 7 else 0)
  else if i.op = 13 then (if l9 s i.a = 0 then 8 else 0)
  else 0
def gD (p : V.Prog) (s : V.State) (i : V.Ins) (inp : List Int) : V.State :=
  if i.op = 1 then { s with regs := s.regs.set i.a.toNat i.b, pc := s.pc + 1 }
  else if i.op = 2 then { s with regs := s.regs.set i.a.toNat (l9 s i.b), pc := s.pc + 1 }
  else if i.op = 3 then { s with regs := s.regs.set i.a.toNat (r3 i.c p.w (l9 s i.a) (l9 s i.b)), pc := s.pc + 1 }
  else if i.op = 4 then { s with regs := s.regs.set i.a.toNat (p7 1 p.w (l9 s i.a)), pc := s.pc + 1 }
  else if i.op = 5 then { s with regs := s.regs.set i.a.toNat (inp.getD s.inn.toNat K.ints.dflt), inn := s.inn + 1, pc := s.pc + 1 }
  else if i.op = 6 then { s with out := s.out ++ [l9 s i.a], pc := s.pc + 1 }
  else if i.op = 7 then { s with regs := s.regs.set i.a.toNat (s.mem.getD (l9 s i.b).toNat K.ints.dflt), pc := s.pc + 1 }
  else if i.op = 8 then { s with mem := s.mem.set (l9 s i.a).toNat (l9 s i.b), pc := s.pc + 1 }
  else if i.op = 9 then { s with pc := i.b }
  else if i.op = 10 then { s with pc := if l9 s i.a = 0 then i.b else s.pc + 1 }
  else if i.op = 11 then { s with stack := s.stack ++ [s.pc + 1], pc := i.b }
  else if i.op = 12 then { s with pc := s.stack.getD (s.stack.length - 1) K.ints.dflt, stack := s.stack.take (s.stack.length - 1) }
  else if i.op = 14 then { s with code := 1 }
  else { s with pc := s.pc + 1 }
def gB (p : V.Prog) (s : V.State) (inp : List Int) : V.State :=
  if s.code = 0 /\ s.steps < 400 then
    if s.pc = (p.code.length : Int) then { s with code := 2 }
    else if u6 p { s with steps := s.steps + 1 } (p.code.getD s.pc.toNat K.inss.dflt) = 0 then gD p { s with steps := s.steps + 1 } (p.code.getD s.pc.toNat K.inss.dflt) inp
    else { s with steps := s.steps + 1, code := u6 p { s with steps := s.steps + 1 } (p.code.getD s.pc.toNat K.inss.dflt) }
  else s
theorem p9 {op a b d w n : Int} (h : r5 ⟨op, a, b, d⟩ w n = true) (ho : op = 1 \/ op = 2 \/ op = 3 \/ op = 4 \/ op = 5 \/ op = 6 \/ op = 7 \/ op = 8 \/ op = 10 \/ op = 13) : 0 <= a /\ a < 4 := by
  rcases ho with rfl | rfl | rfl | rfl | rfl | rfl | rfl | rfl | rfl | rfl <;> simp [r5, qA, inP] at h <;> omega
theorem e9 {op a b d w n : Int} (h : r5 ⟨op, a, b, d⟩ w n = true) (ho : op = 2 \/ op = 3 \/ op = 7 \/ op = 8) : 0 <= b /\ b < 4 := by
  rcases ho with rfl | rfl | rfl | rfl <;> simp [r5, qA, inP] at h <;> omega
theorem dV {l : List Int} (h : ∀ x ∈ l, 0 <= x) (i : Int) : 0 <= l.getD i.toNat K.ints.dflt := by
  rw [List.getD_eq_getElem?_getD]
  cases hi : l[i.toNat]? with
  | none => exact Int.le_refl 0
  | some x => exact h x (List.mem_of_getElem? hi)
theorem why7 {p : V.Prog} {s : V.State} {a b d : Int} (h : u6 p s ⟨7, a, b, d⟩ = 0) : l9 s b < p.mem := by
  simp only [u6, Int.reduceEq, reduceIte] at h
  split at h
  . cases h
  . omega
theorem why8 {p : V.Prog} {s : V.State} {a b d : Int} (h : u6 p s ⟨8, a, b, d⟩ = 0) : l9 s a < p.mem := by
  simp only [u6, Int.reduceEq, reduceIte] at h
  split at h
  . cases h
  . omega
theorem why5 {p : V.Prog} {s : V.State} {a b d : Int} (h : u6 p s ⟨5, a, b, d⟩ = 0) : s.inn < p.inn := by
  simp only [u6, Int.reduceEq, reduceIte] at h
  split at h
  . cases h
  . omega
theorem nZ {x : Int} {n : Nat} (h0 : 0 <= x) (h : x < n) : x.toNat < n := by omega
structure MOk (p : V.Prog) (s : V.State) : Prop where
  regs : s.regs.length = 4
  mem : (s.mem.length : Int) = p.mem
  pc : 0 <= s.pc /\ s.pc <= p.code.length
  stk : s.stack.length <= 3
  stw : ∀ n ∈ s.stack, 0 <= n /\ n <= p.code.length
  inn : 0 <= s.inn /\ s.inn <= p.inn
  out : s.out.length <= 6
  steps : 0 <= s.steps /\ s.steps <= 400
  code : 0 <= s.code /\ s.code <= 8
  rw : ∀ x ∈ s.regs, wordP p.w x = true
  mw : ∀ x ∈ s.mem, wordP p.w x = true
  ow : ∀ x ∈ s.out, wordP p.w x = true
theorem prog_w {p : V.Prog} (h : f4 p = true) : inP p.w 1 16 = true /\ 2 <= p.w /\ p.w <= 8 /\ (p.code.length : Int) <= 40 /\ 1 <= (p.code.length : Int) /\ 0 <= p.inn /\ p.inn <= 3 := by
  simp [f4, inP] at h ⊢
  omega
theorem qjl {p : V.Prog} (h : f4 p = true) {k : Nat} (hk : k < p.code.length) : r5 (p.code.getD k K.inss.dflt) p.w p.code.length = true := by
  simp only [f4, Bool.and_eq_true] at h
  have h2 := h.2
  rw [List.all_eq_true] at h2
  have := h2 (p.code[k]) (List.getElem_mem hk)
  rw [List.getD_eq_getElem?_getD, List.getElem?_eq_getElem hk]
  exact this
set_option maxRecDepth 100000
set_option maxHeartbeats 40000000
theorem qh8 (w mem inn : Int) (c : List V.Ins) (pc : Int) (regs cells stack : List Int) (sin : Int) (out : List Int) (code steps : Int) (op a b d : Int) (hi : r5 ⟨op, a, b, d⟩ w c.length = true) (hr : regs.length = 4) (hsi : 0 <= sin /\ sin <= inn) (hso : out.length <= 6) (hst : stack.length <= 3) : CallsV Tryz.prog 81 [.agg [.dat (.i w), .dat (.i mem), .dat (.i inn), .dat (.seq .inss c)], .agg [.dat (.i pc), .dat (.seq .ints regs), .dat (.seq .ints cells), .dat (.seq .ints stack), .dat (.i sin), .dat (.seq .ints out), .dat (.i code), .dat (.i steps)], .agg [.dat (.i op), .dat (.i a), .dat (.i b), .dat (.i d)]] (.dat (.i (if op = 14 then 1 else u6 ⟨w, mem, inn, c⟩ ⟨pc, regs, cells, stack, sin, out, code, steps⟩ ⟨op, a, b, d⟩))) := by
  refine oV Tryz.func81 ⟨?_⟩
  repeat' (first | ((with_reducible refine fun (K1 : KT) hK => ?_); refine o5 ⟨?_⟩) | ((with_reducible show K1 _ _); subst hK; conv => whnf) | refine st0 ⟨?_⟩ | ((with_reducible refine SplS.mk (fun h => ?_) (fun h => ?_)) <;> first | exact m4 | (subst h; conv => whnf) | (conv => whnf)) | refine s1 ⟨?_⟩ ⟨?_⟩ | (intro h; conv => whnf))
  all_goals repeat clear hK K1
  all_goals first
    | rfl
    | (have := e9 hi (by simp); omega)
    | (have := p9 hi (by simp); omega)
    | (refine congrArg Dat.i ?_
       simp only [u6, l9, Int.reduceEq, reduceIte]
       first
         | omega
         | (split <;> omega))
    | (refine congrArg Dat.i ?_
       simp [u6]
       exact h)
theorem both {p q : Prop} [Decidable p] [Decidable q] (h : (decide p && decide q) = true) : p /\ q := by simpa using h
theorem word_nn {w x : Int} (h : wordP w x = true) : 0 <= x := by
  simp only [wordP, inP, Bool.and_eq_true, decide_eq_true_eq] at h; exact h.2.1
theorem jP {p : V.Prog} {s : V.State} {inp : List Int} (h : ¬ (s.code = 0 /\ s.steps < 400)) : gB p s inp = s := by unfold gB; rw [if_neg h]
theorem yZ {p : V.Prog} {s : V.State} {inp : List Int} (h : s.code = 0 /\ s.steps < 400) (h2 : s.pc = (p.code.length : Int)) : gB p s inp = { s with code := 2 } := by unfold gB; rw [if_pos h, if_pos h2]
theorem xZ {p : V.Prog} {s : V.State} {inp : List Int} (h : s.code = 0 /\ s.steps < 400) (h2 : ¬ s.pc = (p.code.length : Int)) (h3 : u6 p { s with steps := s.steps + 1 } (p.code.getD s.pc.toNat K.inss.dflt) = 0) :
    gB p s inp = gD p { s with steps := s.steps + 1 } (p.code.getD s.pc.toNat K.inss.dflt) inp := by unfold gB; rw [if_pos h, if_neg h2, if_pos h3]
theorem step_3 {p : V.Prog} {s : V.State} {inp : List Int} (h : s.code = 0 /\ s.steps < 400) (h2 : ¬ s.pc = (p.code.length : Int)) (h3 : ¬ u6 p { s with steps := s.steps + 1 } (p.code.getD s.pc.toNat K.inss.dflt) = 0) :
    gB p s inp = { s with steps := s.steps + 1, code := u6 p { s with steps := s.steps + 1 } (p.code.getD s.pc.toNat K.inss.dflt) } := by unfold gB; rw [if_pos h, if_neg h2, if_neg h3]
def avS (s : V.State) : AV := .agg [.dat (.i s.pc), .row 0, .row 1, .row 2, .dat (.i s.inn), .row 3, .dat (.i s.code), .dat (.i s.steps)]
def oH (s : V.State) : List Blk := [.row 3 .ints s.regs false, .row 3 .ints s.mem false, .row 3 .ints s.stack false, .row 3 .ints s.out false]
def lO (s : V.State) : AV := .agg [.dat (.i s.pc), .dat (.seq .ints s.regs), .dat (.seq .ints s.mem), .dat (.seq .ints s.stack), .dat (.i s.inn), .dat (.seq .ints s.out), .dat (.i s.code), .dat (.i s.steps)]
theorem qg3 {op x : Int} (h : (if op = 14 then 1 else x) = 0) : ¬ op = 14 /\ x = 0 := by
  split at h
  . cases h
  . exact ⟨by assumption, h⟩
theorem step_at {w mem inn : Int} {c : List V.Ins} {pc : Int} {regs cells stack : List Int} {sin : Int} {out : List Int} {steps : Int} {inp : List Int} {op a b d : Int} (hI : c.getD pc.toNat K.inss.dflt = ⟨op, a, b, d⟩)
    (h4 : steps < 400) (hpc : ¬ pc = (c.length : Int)) (hy : u6 ⟨w, mem, inn, c⟩ ⟨pc, regs, cells, stack, sin, out, 0, steps + 1⟩ ⟨op, a, b, d⟩ = 0) :
    gB ⟨w, mem, inn, c⟩ ⟨pc, regs, cells, stack, sin, out, 0, steps⟩ inp = gD ⟨w, mem, inn, c⟩ ⟨pc, regs, cells, stack, sin, out, 0, steps + 1⟩ ⟨op, a, b, d⟩ inp := by
  rw [xZ ⟨rfl, h4⟩ hpc (by rw [hI]; exact hy), hI]
theorem vZ {w mem inn : Int} {c : List V.Ins} {pc : Int} {regs cells stack : List Int} {sin : Int} {out : List Int} {steps : Int} {inp : List Int} {op a b d : Int} (hI : c.getD pc.toNat K.inss.dflt = ⟨op, a, b, d⟩)
    (h4 : steps < 400) (hpc : ¬ pc = (c.length : Int)) (hy : ¬ (if op = 14 then 1 else u6 ⟨w, mem, inn, c⟩ ⟨pc, regs, cells, stack, sin, out, 0, steps + 1⟩ ⟨op, a, b, d⟩) = 0) :
    gB ⟨w, mem, inn, c⟩ ⟨pc, regs, cells, stack, sin, out, 0, steps⟩ inp = ⟨pc, regs, cells, stack, sin, out, if op = 14 then 1 else u6 ⟨w, mem, inn, c⟩ ⟨pc, regs, cells, stack, sin, out, 0, steps + 1⟩ ⟨op, a, b, d⟩, steps + 1⟩ := by
  by_cases ho : op = 14
  . subst ho
    rw [xZ ⟨rfl, h4⟩ hpc (by rw [hI]; rfl), hI]
    rfl
  . rw [if_neg ho] at hy ⊢
    rw [step_3 ⟨rfl, h4⟩ hpc (by rw [hI]; exact hy), hI]
theorem qh9 (w mem inn : Int) (c : List V.Ins) (pc : Int) (regs cells stack : List Int) (sin : Int) (out : List Int) (code steps : Int) (inp : List Int) (hp : f4 ⟨w, mem, inn, c⟩ = true) (hM : MOk ⟨w, mem, inn, c⟩ ⟨pc, regs, cells, stack, sin, out, code, steps⟩) (hin : (inp.length : Int) = inn) (_hiw : ∀ x ∈ inp, wordP w x = true) : CallsG Tryz.prog 45 [.agg [.dat (.i w), .dat (.i mem), .dat (.i inn), .dat (.seq .inss c)], .agg [.dat (.i pc), .row 0, .row 1, .row 2, .dat (.i sin), .row 3, .dat (.i code), .dat (.i steps)], .dat (.seq .ints inp)] [.row 3 .ints regs false, .row 3 .ints cells false, .row 3 .ints stack false, .row 3 .ints out false] 0 (fun res B => res = avS (gB ⟨w, mem, inn, c⟩ ⟨pc, regs, cells, stack, sin, out, code, steps⟩ inp) /\ B = oH (gB ⟨w, mem, inn, c⟩ ⟨pc, regs, cells, stack, sin, out, code, steps⟩ inp)) := by
  refine oG Tryz.func45 ⟨?_⟩
  repeat' (first | ((with_reducible refine fun (K1 : KT) hK => ?_); refine o5 ⟨?_⟩) | ((with_reducible show K1 _ _); subst hK; conv => whnf) | (with_reducible exact rfl) | refine st0 ⟨?_⟩ | ((with_reducible refine SplS.mk (fun h => ?_) (fun h => ?_)) <;> first | exact m4 | (subst h; conv => whnf) | (conv => whnf)) | refine s1 ⟨?_⟩ ⟨?_⟩ | refine vP (qh8 (hi := ?_) (hr := ?_) (hsi := ?_) (hso := ?_) (hst := ?_) ..) ⟨?_⟩ | refine vE (wP ..) ⟨?_⟩ | refine vE (qaz ..) ⟨?_⟩ | (intro h; conv => whnf))
  all_goals repeat clear hK K1
  all_goals first | exact (congrArg oH (jP (p := ⟨w, mem, inn, c⟩) (s := ⟨pc, regs, cells, stack, sin, out, code, steps⟩) (inp := inp) (fun x => absurd x.1 h))).symm | exact (congrArg avS (jP (p := ⟨w, mem, inn, c⟩) (s := ⟨pc, regs, cells, stack, sin, out, code, steps⟩) (inp := inp) (fun x => absurd x.1 h))).symm | exact (congrArg oH (jP (p := ⟨w, mem, inn, c⟩) (s := ⟨pc, regs, cells, stack, sin, out, 0, 400⟩) (inp := inp) (fun x => Int.lt_irrefl _ x.2))).symm | exact (congrArg avS (jP (p := ⟨w, mem, inn, c⟩) (s := ⟨pc, regs, cells, stack, sin, out, 0, 400⟩) (inp := inp) (fun x => Int.lt_irrefl _ x.2))).symm | exact (congrArg oH (yZ (p := ⟨w, mem, inn, c⟩) (s := ⟨c.length, regs, cells, stack, sin, out, 0, steps⟩) (inp := inp) ⟨rfl, by have := hM.steps; simp only at this; show steps < 400; omega⟩ rfl)).symm | exact (congrArg avS (yZ (p := ⟨w, mem, inn, c⟩) (s := ⟨c.length, regs, cells, stack, sin, out, 0, steps⟩) (inp := inp) ⟨rfl, by have := hM.steps; simp only at this; show steps < 400; omega⟩ rfl)).symm | skip
  all_goals
    have q1 : 0 <= pc /\ pc <= c.length := hM.pc
    have hsi : 0 <= sin /\ sin <= inn := hM.inn
    have q3 : 0 <= steps /\ steps <= 400 := hM.steps
    have hst : stack.length <= 3 := hM.stk
    have hso : out.length <= 6 := hM.out
    have hr : regs.length = 4 := hM.regs
    have hm : (cells.length : Int) = mem := hM.mem
    obtain ⟨_, q4, q5, q6, q7, q8, q9⟩ := prog_w hp
    simp only at q4 q5 q6 q7 q8 q9
    have e1 : IntKind.i64.wrap (pc + 1) = pc + 1 := j2 omG omG
    have e2 : IntKind.i64.wrap (sin + 1) = sin + 1 := j2 omG omG
    have e5 : IntKind.i64.wrap (steps + 1) = steps + 1 := j2 omG omG
    have hm' : maxLen = 9223372036854775807 := rfl
    have hw : ∀ x ∈ regs, 0 <= x := fun x hx => word_nn (hM.rw x hx)
    have h4 : steps < 400 := by omega
    have hpc : ¬ pc = (c.length : Int) := by assumption
    have hi : r5 (c.getD pc.toNat K.inss.dflt) w c.length = true := qjl (p := ⟨w, mem, inn, c⟩) (k := pc.toNat) hp (by show pc.toNat < c.length; omega)
    generalize hI : c.getD pc.toNat K.inss.dflt = i at *
    obtain ⟨op, a, b, d⟩ := i
    simp only [e5] at *
  all_goals first | omega | exact (congrArg oH (vZ hI h4 hpc (by assumption))).symm | exact (congrArg avS (vZ hI h4 hpc (by assumption))).symm | skip
  all_goals
    obtain ⟨h14, hy⟩ := qg3 (by assumption)
    try rw [step_at hI h4 hpc hy]
    try clear hM
    try simp only [hI] at *
  all_goals
    try subst_vars
    first
      | assumption
      | rfl
      | omega
      | (obtain ⟨q1, q2⟩ := e9 hi (Or.inl rfl); omega)
      | (obtain ⟨q1, q2⟩ := e9 hi (Or.inr (Or.inl rfl)); omega)
      | (obtain ⟨q1, q2⟩ := e9 hi (Or.inr (Or.inr (Or.inl rfl))); omega)
      | (obtain ⟨q1, q2⟩ := e9 hi (Or.inr (Or.inr (Or.inr rfl))); omega)
      | (obtain ⟨q1, q2⟩ := p9 hi (by first | exact Or.inl rfl | exact Or.inr (Or.inl rfl) | exact Or.inr (Or.inr (Or.inl rfl)) | exact Or.inr (Or.inr (Or.inr (Or.inl rfl))) | exact Or.inr (Or.inr (Or.inr (Or.inr (Or.inl rfl)))) | exact Or.inr (Or.inr (Or.inr (Or.inr (Or.inr (Or.inl rfl))))) | exact Or.inr (Or.inr (Or.inr (Or.inr (Or.inr (Or.inr (Or.inl rfl)))))) | exact Or.inr (Or.inr (Or.inr (Or.inr (Or.inr (Or.inr (Or.inr (Or.inl rfl))))))) | exact Or.inr (Or.inr (Or.inr (Or.inr (Or.inr (Or.inr (Or.inr (Or.inr (Or.inl rfl))))))))); omega)
      | exact dV hw _
      | (have hq : sin < _ := why5 hy; omega)
      | (have hq := why7 hy; simp only at hq; first | exact hq | exact nZ (dV hw _) hq)
      | (have hq := why8 hy; simp only at hq; first | exact hq | exact nZ (dV hw _) hq)
      | (simp only [u6, l9, Int.reduceEq, reduceIte] at hy
         split at hy <;> omega)
      | (have e3 : IntKind.i64.wrap ((stack.length : Int) - 1) = stack.length - 1 := j2 omG omG
         simp only [u6, l9, Int.reduceEq, reduceIte] at hy
         rw [e3]
         split at hy <;> omega)
      | (show (out.length + [_].length) * 8 <= _; simp; omega)
      | (show out.length + [_].length <= _; simp; omega)
      | (show (stack.length + [_].length) * 8 <= _; simp; omega)
      | (show stack.length + [_].length <= _; simp; omega)
      | (simp only [oH, avS, gD, l9, Int.reduceEq, reduceIte, *]; done)
      | (simp only [oH, avS, gD, l9, Int.reduceEq, reduceIte]; rfl)
      | (have e3 : IntKind.i64.wrap ((stack.length : Int) - 1) = stack.length - 1 := j2 omG omG
         have e4 : ((stack.length : Int) - 1).toNat = stack.length - 1 := by omega
         simp only [oH, avS, gD, Int.reduceEq, reduceIte, e3, e4, hy])
      | skip
end Vg
