/- Mutants: contracts. Condition: the program is in order. -/
import Derived.Test.YtnjkencoohaheaaMach
namespace Vg
open Go Go.Proofs

/-- the mutants that one instruction has -/
def mutI (w : Int) (i : V.Ins) : List V.Ins :=
  if i.op = 1 then [⟨1, i.a, wordOfP w (IntKind.i64.wrap (i.b + 1)), 0⟩]
  else if i.op = 3 then [⟨3, i.a, i.b, if i.c = 13 then 3 else if i.c = 16 then 14 else i.c + 1⟩]
  else if i.op = 10 then [⟨9, 0, i.b, 0⟩, ⟨2, i.a, i.a, 0⟩]
  else if i.op = 13 then [⟨2, i.a, i.a, 0⟩]
  else []
def mutsTo (p : V.Prog) : Nat → List V.Prog
  | 0 => []
  | k + 1 => mutsTo p k ++ (mutI p.w (p.code.getD k K.inss.dflt)).map fun i => ⟨p.w, p.mem, p.inn, p.code.set k i⟩
def mutsP (p : V.Prog) : List V.Prog := if progP p then mutsTo p p.code.length else []
theorem mutI_len (w : Int) (i : V.Ins) : (mutI w i).length ≤ 2 := by
  unfold mutI
  split
  · simp
  · split
    · simp
    · split
      · simp
      · split <;> simp
theorem muts_len (p : V.Prog) (k : Nat) : (mutsTo p k).length ≤ 2 * k := by
  induction k with
  | zero => simp [mutsTo]
  | succ k ih =>
    have := mutI_len p.w (p.code.getD k K.inss.dflt)
    simp only [mutsTo, List.length_append, List.length_map]
    omega
theorem muts_1 {p : V.Prog} {k : Nat} (h : (p.code.getD k K.inss.dflt).op = 1) : mutsTo p (k + 1) = mutsTo p k ++ [⟨p.w, p.mem, p.inn, p.code.set k ⟨1, (p.code.getD k K.inss.dflt).a, wordOfP p.w (IntKind.i64.wrap ((p.code.getD k K.inss.dflt).b + 1)), 0⟩⟩] := by
  simp only [mutsTo, mutI, if_pos h, List.map_cons, List.map_nil]
theorem muts_3 {p : V.Prog} {k : Nat} {d : Int} (h : (p.code.getD k K.inss.dflt).op = 3) (hd : d = if (p.code.getD k K.inss.dflt).c = 13 then 3 else if (p.code.getD k K.inss.dflt).c = 16 then 14 else (p.code.getD k K.inss.dflt).c + 1) :
    mutsTo p (k + 1) = mutsTo p k ++ [⟨p.w, p.mem, p.inn, p.code.set k ⟨3, (p.code.getD k K.inss.dflt).a, (p.code.getD k K.inss.dflt).b, d⟩⟩] := by
  subst hd
  simp only [mutsTo, mutI, if_pos h, if_neg (show ¬ (p.code.getD k K.inss.dflt).op = 1 by omega), List.map_cons, List.map_nil]
theorem muts_3a {p : V.Prog} {k : Nat} (h : (p.code.getD k K.inss.dflt).op = 3) (h1 : (p.code.getD k K.inss.dflt).c = 13) :
    mutsTo p (k + 1) = mutsTo p k ++ [⟨p.w, p.mem, p.inn, p.code.set k ⟨3, (p.code.getD k K.inss.dflt).a, (p.code.getD k K.inss.dflt).b, 3⟩⟩] := muts_3 h (by rw [if_pos h1])
theorem muts_3b {p : V.Prog} {k : Nat} (h : (p.code.getD k K.inss.dflt).op = 3) (h1 : ¬ (p.code.getD k K.inss.dflt).c = 13) (h2 : (p.code.getD k K.inss.dflt).c = 16) :
    mutsTo p (k + 1) = mutsTo p k ++ [⟨p.w, p.mem, p.inn, p.code.set k ⟨3, (p.code.getD k K.inss.dflt).a, (p.code.getD k K.inss.dflt).b, 14⟩⟩] := muts_3 h (by rw [if_neg h1, if_pos h2])
theorem muts_3c {p : V.Prog} {k : Nat} (h : (p.code.getD k K.inss.dflt).op = 3) (hb : 3 ≤ (p.code.getD k K.inss.dflt).c ∧ (p.code.getD k K.inss.dflt).c ≤ 16) (h1 : ¬ (p.code.getD k K.inss.dflt).c = 13) (h2 : ¬ (p.code.getD k K.inss.dflt).c = 16) :
    mutsTo p (k + 1) = mutsTo p k ++ [⟨p.w, p.mem, p.inn, p.code.set k ⟨3, (p.code.getD k K.inss.dflt).a, (p.code.getD k K.inss.dflt).b, IntKind.i64.wrap ((p.code.getD k K.inss.dflt).c + 1)⟩⟩] :=
  muts_3 h (by rw [if_neg h1, if_neg h2]; exact wrap_id (by omega) (by omega))
theorem muts_10 {p : V.Prog} {k : Nat} (h : (p.code.getD k K.inss.dflt).op = 10) : mutsTo p (k + 1) = mutsTo p k ++ [⟨p.w, p.mem, p.inn, p.code.set k ⟨9, 0, (p.code.getD k K.inss.dflt).b, 0⟩⟩, ⟨p.w, p.mem, p.inn, p.code.set k ⟨2, (p.code.getD k K.inss.dflt).a, (p.code.getD k K.inss.dflt).a, 0⟩⟩] := by
  simp only [mutsTo, mutI, if_pos h, if_neg (show ¬ (p.code.getD k K.inss.dflt).op = 1 by omega), if_neg (show ¬ (p.code.getD k K.inss.dflt).op = 3 by omega), List.map_cons, List.map_nil]
theorem muts_13 {p : V.Prog} {k : Nat} (h : (p.code.getD k K.inss.dflt).op = 13) : mutsTo p (k + 1) = mutsTo p k ++ [⟨p.w, p.mem, p.inn, p.code.set k ⟨2, (p.code.getD k K.inss.dflt).a, (p.code.getD k K.inss.dflt).a, 0⟩⟩] := by
  simp only [mutsTo, mutI, if_pos h, if_neg (show ¬ (p.code.getD k K.inss.dflt).op = 1 by omega), if_neg (show ¬ (p.code.getD k K.inss.dflt).op = 3 by omega), if_neg (show ¬ (p.code.getD k K.inss.dflt).op = 10 by omega), List.map_cons, List.map_nil]
theorem muts_0 {p : V.Prog} {k : Nat} (h1 : ¬ (p.code.getD k K.inss.dflt).op = 1) (h3 : ¬ (p.code.getD k K.inss.dflt).op = 3) (h10 : ¬ (p.code.getD k K.inss.dflt).op = 10) (h13 : ¬ (p.code.getD k K.inss.dflt).op = 13) : mutsTo p (k + 1) = mutsTo p k := by
  simp only [mutsTo, mutI, if_neg h1, if_neg h3, if_neg h10, if_neg h13, List.map_nil, List.append_nil]
/-- an instruction of a program in order -/
theorem ins_at {w mem inn : Int} {c : List V.Ins} {k : Nat} (hp : progP ⟨w, mem, inn, c⟩ = true) (hk : (k : Int) < c.length) : insP (c.getD k K.inss.dflt) w c.length = true := by
  simp only [progP, Bool.and_eq_true] at hp
  have h2 := hp.2
  rw [List.all_eq_true] at h2
  have hk' : k < c.length := by omega
  have := h2 (c[k]) (List.getElem_mem hk')
  rw [List.getD_eq_getElem?_getD, List.getElem?_eq_getElem hk']
  exact this
theorem ins_c0 {i : V.Ins} {w n : Int} (h : insP i w n = true) (ho : i.op = 1 ∨ i.op = 10 ∨ i.op = 13) : i.c = 0 := by
  obtain ⟨op, a, b, c⟩ := i
  simp only at ho
  rcases ho with rfl | rfl | rfl <;> simp [insP] at h <;> simp [h]
theorem ins_c3 {i : V.Ins} {w n : Int} (h : insP i w n = true) (ho : i.op = 3) : 3 ≤ i.c ∧ i.c ≤ 16 := by
  obtain ⟨op, a, b, c⟩ := i
  simp only at ho
  subst ho
  simp [insP, inP] at h
  simp only; omega
theorem prog_c {w mem inn : Int} {c : List V.Ins} (h : progP ⟨w, mem, inn, c⟩ = true) : c.length ≤ 40 := by
  simp [progP, inP] at h
  omega

theorem muts_1s {p : V.Prog} {k : Nat} {n : Int} (hi : insP (p.code.getD k K.inss.dflt) p.w n = true) (h : (p.code.getD k K.inss.dflt).op = 1) :
    mutsTo p (k + 1) = mutsTo p k ++ [⟨p.w, p.mem, p.inn, p.code.set k ⟨(p.code.getD k K.inss.dflt).op, (p.code.getD k K.inss.dflt).a, wordOfP p.w (IntKind.i64.wrap ((p.code.getD k K.inss.dflt).b + 1)), (p.code.getD k K.inss.dflt).c⟩⟩] := by
  rw [muts_1 h, h, ins_c0 hi (.inl h)]
theorem muts_3s {p : V.Prog} {k : Nat} {d : Int} (h : (p.code.getD k K.inss.dflt).op = 3) (hm : mutsTo p (k + 1) = mutsTo p k ++ [⟨p.w, p.mem, p.inn, p.code.set k ⟨3, (p.code.getD k K.inss.dflt).a, (p.code.getD k K.inss.dflt).b, d⟩⟩]) :
    mutsTo p (k + 1) = mutsTo p k ++ [⟨p.w, p.mem, p.inn, p.code.set k ⟨(p.code.getD k K.inss.dflt).op, (p.code.getD k K.inss.dflt).a, (p.code.getD k K.inss.dflt).b, d⟩⟩] := by
  rw [hm, h]

set_option maxRecDepth 100000 in
theorem i_CloneI (c : List V.Ins) (h0 : 1 ≤ c.length) (h1 : c.length ≤ 40) : CallsF Try.prog 131 [.dat (.seq .inss c)] true (fun res B => res = .row 0 ∧ B = [.row 35 .inss c false]) := by
  refine CallsF.of_awp tauOk mixOk Try.func131 rfl rfl rfl ?_
  conv => whnf
  repeat' (first
    | ((with_reducible refine Alt.l ?_); conv => whnf)
    | ((with_reducible refine fun (K1 : AX → AState → Prop) hK => ?_); conv => whnf)
    | ((with_reducible show K1 _ _); subst hK; conv => whnf)
    | (with_reducible exact rfl)
    | ((with_reducible refine sp_T ?_); conv => whnf)
    | ((with_reducible refine sp_F ?_); conv => whnf)
    | ((with_reducible refine sp_T' ?_); conv => whnf)
    | ((with_reducible refine sp_F' ?_); conv => whnf)
    | ((with_reducible refine sp_dF ?_ ?_); decide; conv => whnf)
    | ((with_reducible refine sp_dT ?_ ?_); decide; conv => whnf)
    | ((with_reducible refine sp_d (fun h => ?_) (fun h => ?_)) <;> first | contradiction | (subst h; conv => whnf) | (conv => whnf))
    | ((with_reducible refine sp_d' (fun h => ?_) (fun h => ?_)) <;> first | contradiction | (subst h; conv => whnf) | (conv => whnf))
    | ((with_reducible refine sp_eF ?_ ?_); decide; conv => whnf)
    | ((with_reducible refine sp_eT ?_); conv => whnf)
    | ((with_reducible refine sp_e (fun h => ?_) (fun h => ?_)) <;> first | contradiction | (subst h; conv => whnf) | (conv => whnf))
    | ((with_reducible refine sp_e' (fun h => ?_) (fun h => ?_)) <;> first | contradiction | (subst h; conv => whnf) | (conv => whnf))
    | ((with_reducible refine sp_n (fun h => ?_) (fun h => ?_)) <;> first | contradiction | (subst h; conv => whnf) | (conv => whnf))
    | ((with_reducible refine sp_n' (fun h => ?_) (fun h => ?_)) <;> first | contradiction | (subst h; conv => whnf) | (conv => whnf))
    | ((with_reducible refine sp_nb (fun h => ?_) (fun h => ?_)) <;> first | contradiction | (conv => whnf))
    | ((with_reducible refine sp_nb' (fun h => ?_) (fun h => ?_)) <;> first | contradiction | (conv => whnf))
    | ((with_reducible refine sp_b (fun h => ?_) (fun h => ?_)) <;> first | contradiction | (conv => whnf))
    | ((with_reducible refine sp_b' (fun h => ?_) (fun h => ?_)) <;> first | contradiction | (conv => whnf))
    | (refine ⟨(rfl : nodupB _ = true), rfl, ?_⟩; conv => whnf)
    | (with_reducible refine bnd2 ?_ ?_)
    | (with_reducible refine bnd2' ?_ ?_)
    | (with_reducible refine bndN ?_ ?_)
    | ((with_reducible refine and_of ?_ ?_); conv => whnf)
    | ((with_reducible show awpOps _ _ _ _ _ _); conv => whnf)
    | (intro h; conv => whnf))
  all_goals (repeat (clear hK; clear K1))
  all_goals first | rfl | (exfalso; have := (show _ → c.length = 0 by assumption) (by assumption); omega) | (have hm : maxLen = 9223372036854775807 := rfl; simp; omega) | (show (_ + c.length) * 32 ≤ _; simp; omega) | skip
set_option maxRecDepth 100000 in
theorem i_copyProgram (w mem inn : Int) (c : List V.Ins) (h0 : 1 ≤ c.length) (h1 : c.length ≤ 40) : CallsF Try.prog 109 [.agg [.dat (.i w), .dat (.i mem), .dat (.i inn), .dat (.seq .inss c)]] true (fun res B => res = .agg [.dat (.i w), .dat (.i mem), .dat (.i inn), .row 0] ∧ B = [.row 35 .inss c false]) := by
  refine CallsF.of_awp tauOk mixOk Try.func109 rfl rfl rfl ?_
  conv => whnf
  repeat' (first
    | ((with_reducible refine Alt.l ?_); conv => whnf)
    | ((with_reducible refine fun (K1 : AX → AState → Prop) hK => ?_); conv => whnf)
    | ((with_reducible show K1 _ _); subst hK; conv => whnf)
    | (with_reducible exact rfl)
    | ((with_reducible refine sp_T ?_); conv => whnf)
    | ((with_reducible refine sp_F ?_); conv => whnf)
    | ((with_reducible refine sp_T' ?_); conv => whnf)
    | ((with_reducible refine sp_F' ?_); conv => whnf)
    | ((with_reducible refine sp_dF ?_ ?_); decide; conv => whnf)
    | ((with_reducible refine sp_dT ?_ ?_); decide; conv => whnf)
    | ((with_reducible refine sp_d (fun h => ?_) (fun h => ?_)) <;> first | contradiction | (subst h; conv => whnf) | (conv => whnf))
    | ((with_reducible refine sp_d' (fun h => ?_) (fun h => ?_)) <;> first | contradiction | (subst h; conv => whnf) | (conv => whnf))
    | ((with_reducible refine sp_eF ?_ ?_); decide; conv => whnf)
    | ((with_reducible refine sp_eT ?_); conv => whnf)
    | ((with_reducible refine sp_e (fun h => ?_) (fun h => ?_)) <;> first | contradiction | (subst h; conv => whnf) | (conv => whnf))
    | ((with_reducible refine sp_e' (fun h => ?_) (fun h => ?_)) <;> first | contradiction | (subst h; conv => whnf) | (conv => whnf))
    | ((with_reducible refine sp_n (fun h => ?_) (fun h => ?_)) <;> first | contradiction | (subst h; conv => whnf) | (conv => whnf))
    | ((with_reducible refine sp_n' (fun h => ?_) (fun h => ?_)) <;> first | contradiction | (subst h; conv => whnf) | (conv => whnf))
    | ((with_reducible refine sp_nb (fun h => ?_) (fun h => ?_)) <;> first | contradiction | (conv => whnf))
    | ((with_reducible refine sp_nb' (fun h => ?_) (fun h => ?_)) <;> first | contradiction | (conv => whnf))
    | ((with_reducible refine sp_b (fun h => ?_) (fun h => ?_)) <;> first | contradiction | (conv => whnf))
    | ((with_reducible refine sp_b' (fun h => ?_) (fun h => ?_)) <;> first | contradiction | (conv => whnf))
    | (refine ⟨(rfl : nodupB _ = true), rfl, ?_⟩; conv => whnf)
    | (with_reducible refine bnd2 ?_ ?_)
    | (with_reducible refine bnd2' ?_ ?_)
    | (with_reducible refine bndN ?_ ?_)
    | ((with_reducible refine and_of ?_ ?_); conv => whnf)
    | ((with_reducible refine fcI (g := 131) ?_); refine ⟨_, _, i_CloneI (h0 := ?_) (h1 := ?_) .., rfl, fun res B hRB => ?_⟩; rotate_right; obtain ⟨rfl, rfl⟩ := hRB; conv => whnf)
    | ((with_reducible show awpOps _ _ _ _ _ _); conv => whnf)
    | (intro h; conv => whnf))
  all_goals (repeat (clear hK; clear K1))
  all_goals first | assumption | rfl | trivial | skip
set_option maxRecDepth 100000 in
theorem i_replaced (w mem inn : Int) (c : List V.Ins) (k : Nat) (op a b d : Int) (h0 : 1 ≤ c.length) (h1 : c.length ≤ 40) (hk : k < c.length) : CallsV Try.prog 58 [.agg [.dat (.i w), .dat (.i mem), .dat (.i inn), .dat (.seq .inss c)], .dat (.i k), .agg [.dat (.i op), .dat (.i a), .dat (.i b), .dat (.i d)]] (.agg [.dat (.i w), .dat (.i mem), .dat (.i inn), .dat (.seq .inss (c.set k ⟨op, a, b, d⟩))]) := by
  refine CallsV.of_awp tauOk mixOk Try.func58 rfl rfl rfl ?_
  conv => whnf
  repeat' (first
    | ((with_reducible refine Alt.l ?_); conv => whnf)
    | ((with_reducible refine fun (K1 : AX → AState → Prop) hK => ?_); conv => whnf)
    | ((with_reducible show K1 _ _); subst hK; conv => whnf)
    | (with_reducible exact rfl)
    | ((with_reducible refine sp_T ?_); conv => whnf)
    | ((with_reducible refine sp_F ?_); conv => whnf)
    | ((with_reducible refine sp_T' ?_); conv => whnf)
    | ((with_reducible refine sp_F' ?_); conv => whnf)
    | ((with_reducible refine sp_dF ?_ ?_); decide; conv => whnf)
    | ((with_reducible refine sp_dT ?_ ?_); decide; conv => whnf)
    | ((with_reducible refine sp_d (fun h => ?_) (fun h => ?_)) <;> first | contradiction | (subst h; conv => whnf) | (conv => whnf))
    | ((with_reducible refine sp_d' (fun h => ?_) (fun h => ?_)) <;> first | contradiction | (subst h; conv => whnf) | (conv => whnf))
    | ((with_reducible refine sp_eF ?_ ?_); decide; conv => whnf)
    | ((with_reducible refine sp_eT ?_); conv => whnf)
    | ((with_reducible refine sp_e (fun h => ?_) (fun h => ?_)) <;> first | contradiction | (subst h; conv => whnf) | (conv => whnf))
    | ((with_reducible refine sp_e' (fun h => ?_) (fun h => ?_)) <;> first | contradiction | (subst h; conv => whnf) | (conv => whnf))
    | ((with_reducible refine sp_n (fun h => ?_) (fun h => ?_)) <;> first | contradiction | (subst h; conv => whnf) | (conv => whnf))
    | ((with_reducible refine sp_n' (fun h => ?_) (fun h => ?_)) <;> first | contradiction | (subst h; conv => whnf) | (conv => whnf))
    | ((with_reducible refine sp_nb (fun h => ?_) (fun h => ?_)) <;> first | contradiction | (conv => whnf))
    | ((with_reducible refine sp_nb' (fun h => ?_) (fun h => ?_)) <;> first | contradiction | (conv => whnf))
    | ((with_reducible refine sp_b (fun h => ?_) (fun h => ?_)) <;> first | contradiction | (conv => whnf))
    | ((with_reducible refine sp_b' (fun h => ?_) (fun h => ?_)) <;> first | contradiction | (conv => whnf))
    | (refine ⟨(rfl : nodupB _ = true), rfl, ?_⟩; conv => whnf)
    | (with_reducible refine bnd2 ?_ ?_)
    | (with_reducible refine bnd2' ?_ ?_)
    | (with_reducible refine bndN ?_ ?_)
    | ((with_reducible refine and_of ?_ ?_); conv => whnf)
    | ((with_reducible refine fcI (g := 109) ?_); refine ⟨_, _, i_copyProgram (h0 := ?_) (h1 := ?_) .., rfl, fun res B hRB => ?_⟩; rotate_right; obtain ⟨rfl, rfl⟩ := hRB; conv => whnf)
    | ((with_reducible show awpOps _ _ _ _ _ _); conv => whnf)
    | (intro h; conv => whnf))
  all_goals (repeat (clear hK; clear K1))
  all_goals first | assumption | rfl | trivial | omega | skip
set_option maxRecDepth 100000 in
theorem s_l09With (w mem inn : Int) (c : List V.Ins) (k : Nat) (op a b d : Int) (h0 : 1 ≤ c.length) (h1 : c.length ≤ 40) (hk : k < c.length) : CallsV Try.prog 61 [.agg [.dat (.i w), .dat (.i mem), .dat (.i inn), .dat (.seq .inss c)], .dat (.i k), .agg [.dat (.i op), .dat (.i a), .dat (.i b), .dat (.i d)]] (.agg [.dat (.i w), .dat (.i mem), .dat (.i inn), .dat (.seq .inss (c.set k ⟨op, a, b, d⟩))]) := by
  refine CallsV.of_awp tauOk mixOk Try.func61 rfl rfl rfl ?_
  conv => whnf
  repeat' (first
    | ((with_reducible refine Alt.l ?_); conv => whnf)
    | ((with_reducible refine fun (K1 : AX → AState → Prop) hK => ?_); conv => whnf)
    | ((with_reducible show K1 _ _); subst hK; conv => whnf)
    | (with_reducible exact rfl)
    | ((with_reducible refine sp_T ?_); conv => whnf)
    | ((with_reducible refine sp_F ?_); conv => whnf)
    | ((with_reducible refine sp_T' ?_); conv => whnf)
    | ((with_reducible refine sp_F' ?_); conv => whnf)
    | ((with_reducible refine sp_dF ?_ ?_); decide; conv => whnf)
    | ((with_reducible refine sp_dT ?_ ?_); decide; conv => whnf)
    | ((with_reducible refine sp_d (fun h => ?_) (fun h => ?_)) <;> first | contradiction | (subst h; conv => whnf) | (conv => whnf))
    | ((with_reducible refine sp_d' (fun h => ?_) (fun h => ?_)) <;> first | contradiction | (subst h; conv => whnf) | (conv => whnf))
    | ((with_reducible refine sp_eF ?_ ?_); decide; conv => whnf)
    | ((with_reducible refine sp_eT ?_); conv => whnf)
    | ((with_reducible refine sp_e (fun h => ?_) (fun h => ?_)) <;> first | contradiction | (subst h; conv => whnf) | (conv => whnf))
    | ((with_reducible refine sp_e' (fun h => ?_) (fun h => ?_)) <;> first | contradiction | (subst h; conv => whnf) | (conv => whnf))
    | ((with_reducible refine sp_n (fun h => ?_) (fun h => ?_)) <;> first | contradiction | (subst h; conv => whnf) | (conv => whnf))
    | ((with_reducible refine sp_n' (fun h => ?_) (fun h => ?_)) <;> first | contradiction | (subst h; conv => whnf) | (conv => whnf))
    | ((with_reducible refine sp_nb (fun h => ?_) (fun h => ?_)) <;> first | contradiction | (conv => whnf))
    | ((with_reducible refine sp_nb' (fun h => ?_) (fun h => ?_)) <;> first | contradiction | (conv => whnf))
    | ((with_reducible refine sp_b (fun h => ?_) (fun h => ?_)) <;> first | contradiction | (conv => whnf))
    | ((with_reducible refine sp_b' (fun h => ?_) (fun h => ?_)) <;> first | contradiction | (conv => whnf))
    | (refine ⟨(rfl : nodupB _ = true), rfl, ?_⟩; conv => whnf)
    | (with_reducible refine bnd2 ?_ ?_)
    | (with_reducible refine bnd2' ?_ ?_)
    | (with_reducible refine bndN ?_ ?_)
    | ((with_reducible refine and_of ?_ ?_); conv => whnf)
    | ((with_reducible show awpOps _ _ _ _ _ _); conv => whnf)
    | (intro h; conv => whnf))
  all_goals (repeat (clear hK; clear K1))
  all_goals first | assumption | rfl | trivial | omega | (have hm : maxLen = 9223372036854775807 := rfl; simp; omega) | (show (_ + c.length) * 32 ≤ _; simp; omega) | skip
set_option maxHeartbeats 4000000 in
set_option maxRecDepth 100000 in
theorem i_MutantsOf (w mem inn : Int) (c : List V.Ins) (hp : progP ⟨w, mem, inn, c⟩ = true) : CallsV Try.prog 10 [.agg [.dat (.i w), .dat (.i mem), .dat (.i inn), .dat (.seq .inss c)]] (.dat (.seq .progs (mutsTo ⟨w, mem, inn, c⟩ c.length))) := by
  refine CallsV.of_awp tauOk mixOk Try.func10 rfl rfl rfl ?_
  conv => whnf
  repeat' (first
    | ((with_reducible refine Alt.l ?_); conv => whnf)
    | ((with_reducible refine fun (K1 : AX → AState → Prop) hK => ?_); conv => whnf)
    | ((with_reducible show K1 _ _); subst hK; conv => whnf)
    | (with_reducible exact rfl)
    | ((with_reducible refine sp_T ?_); conv => whnf)
    | ((with_reducible refine sp_F ?_); conv => whnf)
    | ((with_reducible refine sp_T' ?_); conv => whnf)
    | ((with_reducible refine sp_F' ?_); conv => whnf)
    | ((with_reducible refine sp_dF ?_ ?_); decide; conv => whnf)
    | ((with_reducible refine sp_dT ?_ ?_); decide; conv => whnf)
    | ((with_reducible refine sp_d (fun h => ?_) (fun h => ?_)) <;> first | contradiction | (subst h; conv => whnf) | (conv => whnf))
    | ((with_reducible refine sp_d' (fun h => ?_) (fun h => ?_)) <;> first | contradiction | (subst h; conv => whnf) | (conv => whnf))
    | ((with_reducible refine sp_eF ?_ ?_); decide; conv => whnf)
    | ((with_reducible refine sp_eT ?_); conv => whnf)
    | ((with_reducible refine sp_e (fun h => ?_) (fun h => ?_)) <;> first | contradiction | (subst h; conv => whnf) | (conv => whnf))
    | ((with_reducible refine sp_e' (fun h => ?_) (fun h => ?_)) <;> first | contradiction | (subst h; conv => whnf) | (conv => whnf))
    | ((with_reducible refine sp_n (fun h => ?_) (fun h => ?_)) <;> first | contradiction | (subst h; conv => whnf) | (conv => whnf))
    | ((with_reducible refine sp_n' (fun h => ?_) (fun h => ?_)) <;> first | contradiction | (subst h; conv => whnf) | (conv => whnf))
    | ((with_reducible refine sp_nb (fun h => ?_) (fun h => ?_)) <;> first | contradiction | (conv => whnf))
    | ((with_reducible refine sp_nb' (fun h => ?_) (fun h => ?_)) <;> first | contradiction | (conv => whnf))
    | ((with_reducible refine sp_b (fun h => ?_) (fun h => ?_)) <;> first | contradiction | (conv => whnf))
    | ((with_reducible refine sp_b' (fun h => ?_) (fun h => ?_)) <;> first | contradiction | (conv => whnf))
    | (refine ⟨(rfl : nodupB _ = true), rfl, ?_⟩; conv => whnf)
    | (with_reducible refine bnd2 ?_ ?_)
    | (with_reducible refine bnd2' ?_ ?_)
    | (with_reducible refine bndN ?_ ?_)
    | ((with_reducible refine and_of ?_ ?_); conv => whnf)
    | (refine Exists.intro ({k : Nat // k ≤ c.length}) (Exists.intro (fun ⟨k, hk⟩ => mkS Try.f10.ntmps [(1, .ptr 1 0), (3, .row 103), (12, .dat (.seq .inss c)), (13, .dat (.i c.length)), (14, .dat (.i k))] [(1, .box [.dat (.i w), .dat (.i mem), .dat (.i inn), .dat (.seq .inss c)]), (103, .row 25 .progs (mutsTo ⟨w, mem, inn, c⟩ k) false)]) (Exists.intro (fun ⟨k, hk⟩ => c.length - k) (Exists.intro ⟨0, Nat.zero_le _⟩ (And.intro (SubP.sub (σ := [(1, some 1), (103, none)]) ⟨⟨rfl, rfl, rfl⟩, ⟨⟨rfl, rfl⟩, rfl, (wk_dat ?_), (wk_dat ?_), (wk_dat ?_), trivial⟩, ⟨⟨(wkC_dat ?_), (wkC_dat ?_), (wkC_dat ?_), (wkC_dat ?_), trivial⟩, ?_, trivial⟩⟩) (fun ⟨k, hk⟩ => ?_))))); rotate_right; conv => whnf)
    | (refine Exists.intro ⟨k + 1, ?_⟩ (And.intro ?_ (SubP.sub (σ := [(1, some 1), (103, some 42)]) ⟨⟨rfl, rfl, rfl⟩, ⟨⟨rfl, rfl⟩, rfl, (wk_dat ?_), (wk_dat ?_), (wk_dat ?_), trivial⟩, ⟨⟨(wkC_dat ?_), (wkC_dat ?_), (wkC_dat ?_), (wkC_dat ?_), trivial⟩, ⟨⟨rfl, rfl⟩, ?_⟩, trivial⟩⟩)))
    | (refine Exists.intro ⟨k + 1, ?_⟩ (And.intro ?_ (SubP.sub (σ := [(1, some 1), (103, some 65)]) ⟨⟨rfl, rfl, rfl⟩, ⟨⟨rfl, rfl⟩, rfl, (wk_dat ?_), (wk_dat ?_), (wk_dat ?_), trivial⟩, ⟨⟨(wkC_dat ?_), (wkC_dat ?_), (wkC_dat ?_), (wkC_dat ?_), trivial⟩, ⟨⟨rfl, rfl⟩, ?_⟩, trivial⟩⟩)))
    | (refine Exists.intro ⟨k + 1, ?_⟩ (And.intro ?_ (SubP.sub (σ := [(1, some 1), (103, some 80)]) ⟨⟨rfl, rfl, rfl⟩, ⟨⟨rfl, rfl⟩, rfl, (wk_dat ?_), (wk_dat ?_), (wk_dat ?_), trivial⟩, ⟨⟨(wkC_dat ?_), (wkC_dat ?_), (wkC_dat ?_), (wkC_dat ?_), trivial⟩, ⟨⟨rfl, rfl⟩, ?_⟩, trivial⟩⟩)))
    | (refine Exists.intro ⟨k + 1, ?_⟩ (And.intro ?_ (SubP.sub (σ := [(1, some 1), (103, some 89)]) ⟨⟨rfl, rfl, rfl⟩, ⟨⟨rfl, rfl⟩, rfl, (wk_dat ?_), (wk_dat ?_), (wk_dat ?_), trivial⟩, ⟨⟨(wkC_dat ?_), (wkC_dat ?_), (wkC_dat ?_), (wkC_dat ?_), trivial⟩, ⟨⟨rfl, rfl⟩, ?_⟩, trivial⟩⟩)))
    | (refine Exists.intro ⟨k + 1, ?_⟩ (And.intro ?_ (SubP.sub (σ := [(1, some 1), (103, some 103)]) ⟨⟨rfl, rfl, rfl⟩, ⟨⟨rfl, rfl⟩, rfl, (wk_dat ?_), (wk_dat ?_), (wk_dat ?_), trivial⟩, ⟨⟨(wkC_dat ?_), (wkC_dat ?_), (wkC_dat ?_), (wkC_dat ?_), trivial⟩, ⟨⟨rfl, rfl⟩, ?_⟩, trivial⟩⟩)))
    | ((with_reducible refine pcI (g := 57) ?_); refine ⟨_, i_ProgramOk .., rfl, ?_⟩; rotate_right; conv => whnf)
    | ((with_reducible show Exists _); refine Exists.intro _ (And.intro (i_ProgramOk ..) (And.intro rfl ?_)); rotate_right; conv => whnf)
    | ((with_reducible refine pcI (g := 58) ?_); refine ⟨_, i_replaced (h0 := ?_) (h1 := ?_) (hk := ?_) .., rfl, ?_⟩; rotate_right; conv => whnf)
    | ((with_reducible show Exists _); refine Exists.intro _ (And.intro (i_replaced (h0 := ?_) (h1 := ?_) (hk := ?_) ..) (And.intro rfl ?_)); rotate_right; conv => whnf)
    | ((with_reducible refine pcI (g := 59) ?_); refine ⟨_, i_WordOf .., rfl, ?_⟩; rotate_right; conv => whnf)
    | ((with_reducible show Exists _); refine Exists.intro _ (And.intro (i_WordOf ..) (And.intro rfl ?_)); rotate_right; conv => whnf)
    | ((with_reducible show awpOps _ _ _ _ _ _); conv => whnf)
    | (intro h; conv => whnf))
  all_goals (repeat (clear hK; clear K1))
  all_goals first
    | rfl
    | assumption
    | exact Bool.noConfusion (h.symm.trans hp)
    | omega
    | (dsimp only; omega)
    | exact congrArg (Dat.int .i64) (wrap_succ (by assumption) (by assumption)).symm
    | (have := prog_c hp; omega)
    | (have := muts_len ⟨w, mem, inn, c⟩ k; have := prog_c hp; have hm : maxLen = 9223372036854775807 := rfl; simp; omega)
    | (have := muts_len ⟨w, mem, inn, c⟩ k; have := prog_c hp; show ((mutsTo _ k).length + _) * 48 ≤ _; simp; omega)
    | exact sig_fin (muts_1 (p := ⟨w, mem, inn, c⟩) (by assumption))
    | exact sig_fin (muts_10 (p := ⟨w, mem, inn, c⟩) (by assumption))
    | exact sig_fin (muts_13 (p := ⟨w, mem, inn, c⟩) (by assumption))
    | exact sig_fin (muts_0 (p := ⟨w, mem, inn, c⟩) (by assumption) (by assumption) (by assumption) (by assumption))
    | exact sig_fin (muts_3a (p := ⟨w, mem, inn, c⟩) (by assumption) (by assumption))
    | exact sig_fin (muts_3b (p := ⟨w, mem, inn, c⟩) (by assumption) (by assumption) (by assumption))
    | exact sig_fin (muts_3c (p := ⟨w, mem, inn, c⟩) (by assumption) (ins_c3 (ins_at hp (by assumption)) (by assumption)) (by assumption) (by assumption))
    | exact sig_fin (muts_1s (p := ⟨w, mem, inn, c⟩) (ins_at hp (by assumption)) (by assumption))
    | exact sig_fin (muts_3s (p := ⟨w, mem, inn, c⟩) (by assumption) (muts_3a (by assumption) (by assumption)))
    | exact sig_fin (muts_3s (p := ⟨w, mem, inn, c⟩) (by assumption) (muts_3b (by assumption) (by assumption) (by assumption)))
    | exact sig_fin (muts_3s (p := ⟨w, mem, inn, c⟩) (by assumption) (muts_3c (by assumption) (ins_c3 (ins_at hp (by assumption)) (by assumption)) (by assumption) (by assumption)))
    | exact congrArg (Dat.seq .progs) (by rw [show k = c.length from by omega])
set_option maxHeartbeats 4000000 in
set_option maxRecDepth 100000 in
theorem s_MutantsOf (w mem inn : Int) (c : List V.Ins) (hp : progP ⟨w, mem, inn, c⟩ = true) : CallsV Try.prog 11 [.agg [.dat (.i w), .dat (.i mem), .dat (.i inn), .dat (.seq .inss c)]] (.dat (.seq .progs (mutsTo ⟨w, mem, inn, c⟩ c.length))) := by
  refine CallsV.of_awp tauOk mixOk Try.func11 rfl rfl rfl ?_
  conv => whnf
  repeat' (first
    | ((with_reducible refine Alt.l ?_); conv => whnf)
    | ((with_reducible refine fun (K1 : AX → AState → Prop) hK => ?_); conv => whnf)
    | ((with_reducible show K1 _ _); subst hK; conv => whnf)
    | (with_reducible exact rfl)
    | ((with_reducible refine sp_T ?_); conv => whnf)
    | ((with_reducible refine sp_F ?_); conv => whnf)
    | ((with_reducible refine sp_T' ?_); conv => whnf)
    | ((with_reducible refine sp_F' ?_); conv => whnf)
    | ((with_reducible refine sp_dF ?_ ?_); decide; conv => whnf)
    | ((with_reducible refine sp_dT ?_ ?_); decide; conv => whnf)
    | ((with_reducible refine sp_d (fun h => ?_) (fun h => ?_)) <;> first | contradiction | (subst h; conv => whnf) | (conv => whnf))
    | ((with_reducible refine sp_d' (fun h => ?_) (fun h => ?_)) <;> first | contradiction | (subst h; conv => whnf) | (conv => whnf))
    | ((with_reducible refine sp_eF ?_ ?_); decide; conv => whnf)
    | ((with_reducible refine sp_eT ?_); conv => whnf)
    | ((with_reducible refine sp_e (fun h => ?_) (fun h => ?_)) <;> first | contradiction | (subst h; conv => whnf) | (conv => whnf))
    | ((with_reducible refine sp_e' (fun h => ?_) (fun h => ?_)) <;> first | contradiction | (subst h; conv => whnf) | (conv => whnf))
    | ((with_reducible refine sp_n (fun h => ?_) (fun h => ?_)) <;> first | contradiction | (subst h; conv => whnf) | (conv => whnf))
    | ((with_reducible refine sp_n' (fun h => ?_) (fun h => ?_)) <;> first | contradiction | (subst h; conv => whnf) | (conv => whnf))
    | ((with_reducible refine sp_nb (fun h => ?_) (fun h => ?_)) <;> first | contradiction | (conv => whnf))
    | ((with_reducible refine sp_nb' (fun h => ?_) (fun h => ?_)) <;> first | contradiction | (conv => whnf))
    | ((with_reducible refine sp_b (fun h => ?_) (fun h => ?_)) <;> first | contradiction | (conv => whnf))
    | ((with_reducible refine sp_b' (fun h => ?_) (fun h => ?_)) <;> first | contradiction | (conv => whnf))
    | (refine ⟨(rfl : nodupB _ = true), rfl, ?_⟩; conv => whnf)
    | (with_reducible refine bnd2 ?_ ?_)
    | (with_reducible refine bnd2' ?_ ?_)
    | (with_reducible refine bndN ?_ ?_)
    | ((with_reducible refine and_of ?_ ?_); conv => whnf)
    | (refine Exists.intro ({k : Nat // k ≤ c.length}) (Exists.intro (fun ⟨k, hk⟩ => mkS Try.f11.ntmps [(1, .ptr 1 0), (3, .row 103), (12, .dat (.seq .inss c)), (13, .dat (.i c.length)), (14, .dat (.i k))] [(1, .box [.dat (.i w), .dat (.i mem), .dat (.i inn), .dat (.seq .inss c)]), (103, .row 25 .progs (mutsTo ⟨w, mem, inn, c⟩ k) false)]) (Exists.intro (fun ⟨k, hk⟩ => c.length - k) (Exists.intro ⟨0, Nat.zero_le _⟩ (And.intro (SubP.sub (σ := [(1, some 1), (103, some 10)]) ⟨⟨rfl, rfl, rfl⟩, ⟨⟨rfl, rfl⟩, rfl, (wk_dat ?_), (wk_dat ?_), (wk_dat ?_), trivial⟩, ⟨⟨(wkC_dat ?_), (wkC_dat ?_), (wkC_dat ?_), (wkC_dat ?_), trivial⟩, ⟨⟨rfl, rfl⟩, ?_⟩, trivial⟩⟩) (fun ⟨k, hk⟩ => ?_))))); rotate_right; conv => whnf)
    | (refine Exists.intro ⟨k + 1, ?_⟩ (And.intro ?_ (SubP.sub (σ := [(1, some 1), (103, some 41)]) ⟨⟨rfl, rfl, rfl⟩, ⟨⟨rfl, rfl⟩, rfl, (wk_dat ?_), (wk_dat ?_), (wk_dat ?_), trivial⟩, ⟨⟨(wkC_dat ?_), (wkC_dat ?_), (wkC_dat ?_), (wkC_dat ?_), trivial⟩, ⟨⟨rfl, rfl⟩, ?_⟩, trivial⟩⟩)))
    | (refine Exists.intro ⟨k + 1, ?_⟩ (And.intro ?_ (SubP.sub (σ := [(1, some 1), (103, some 62)]) ⟨⟨rfl, rfl, rfl⟩, ⟨⟨rfl, rfl⟩, rfl, (wk_dat ?_), (wk_dat ?_), (wk_dat ?_), trivial⟩, ⟨⟨(wkC_dat ?_), (wkC_dat ?_), (wkC_dat ?_), (wkC_dat ?_), trivial⟩, ⟨⟨rfl, rfl⟩, ?_⟩, trivial⟩⟩)))
    | (refine Exists.intro ⟨k + 1, ?_⟩ (And.intro ?_ (SubP.sub (σ := [(1, some 1), (103, some 77)]) ⟨⟨rfl, rfl, rfl⟩, ⟨⟨rfl, rfl⟩, rfl, (wk_dat ?_), (wk_dat ?_), (wk_dat ?_), trivial⟩, ⟨⟨(wkC_dat ?_), (wkC_dat ?_), (wkC_dat ?_), (wkC_dat ?_), trivial⟩, ⟨⟨rfl, rfl⟩, ?_⟩, trivial⟩⟩)))
    | (refine Exists.intro ⟨k + 1, ?_⟩ (And.intro ?_ (SubP.sub (σ := [(1, some 1), (103, some 86)]) ⟨⟨rfl, rfl, rfl⟩, ⟨⟨rfl, rfl⟩, rfl, (wk_dat ?_), (wk_dat ?_), (wk_dat ?_), trivial⟩, ⟨⟨(wkC_dat ?_), (wkC_dat ?_), (wkC_dat ?_), (wkC_dat ?_), trivial⟩, ⟨⟨rfl, rfl⟩, ?_⟩, trivial⟩⟩)))
    | (refine Exists.intro ⟨k + 1, ?_⟩ (And.intro ?_ (SubP.sub (σ := [(1, some 1), (103, some 103)]) ⟨⟨rfl, rfl, rfl⟩, ⟨⟨rfl, rfl⟩, rfl, (wk_dat ?_), (wk_dat ?_), (wk_dat ?_), trivial⟩, ⟨⟨(wkC_dat ?_), (wkC_dat ?_), (wkC_dat ?_), (wkC_dat ?_), trivial⟩, ⟨⟨rfl, rfl⟩, ?_⟩, trivial⟩⟩)))
    | ((with_reducible refine pcI (g := 14) ?_); refine ⟨_, s_ProgramOk .., rfl, ?_⟩; rotate_right; conv => whnf)
    | ((with_reducible show Exists _); refine Exists.intro _ (And.intro (s_ProgramOk ..) (And.intro rfl ?_)); rotate_right; conv => whnf)
    | ((with_reducible refine pcI (g := 60) ?_); refine ⟨_, s_WordOf .., rfl, ?_⟩; rotate_right; conv => whnf)
    | ((with_reducible show Exists _); refine Exists.intro _ (And.intro (s_WordOf ..) (And.intro rfl ?_)); rotate_right; conv => whnf)
    | ((with_reducible refine pcI (g := 61) ?_); refine ⟨_, s_l09With (h0 := ?_) (h1 := ?_) (hk := ?_) .., rfl, ?_⟩; rotate_right; conv => whnf)
    | ((with_reducible show Exists _); refine Exists.intro _ (And.intro (s_l09With (h0 := ?_) (h1 := ?_) (hk := ?_) ..) (And.intro rfl ?_)); rotate_right; conv => whnf)
    | ((with_reducible show awpOps _ _ _ _ _ _); conv => whnf)
    | (intro h; conv => whnf))
  all_goals (repeat (clear hK; clear K1))
  all_goals first
    | rfl
    | assumption
    | exact Bool.noConfusion (h.symm.trans hp)
    | omega
    | (dsimp only; omega)
    | exact congrArg (Dat.int .i64) (wrap_succ (by assumption) (by assumption)).symm
    | (have := prog_c hp; omega)
    | (have := muts_len ⟨w, mem, inn, c⟩ k; have := prog_c hp; have hm : maxLen = 9223372036854775807 := rfl; simp; omega)
    | (have := muts_len ⟨w, mem, inn, c⟩ k; have := prog_c hp; show ((mutsTo _ k).length + _) * 48 ≤ _; simp; omega)
    | exact sig_fin (muts_1 (p := ⟨w, mem, inn, c⟩) (by assumption))
    | exact sig_fin (muts_10 (p := ⟨w, mem, inn, c⟩) (by assumption))
    | exact sig_fin (muts_13 (p := ⟨w, mem, inn, c⟩) (by assumption))
    | exact sig_fin (muts_0 (p := ⟨w, mem, inn, c⟩) (by assumption) (by assumption) (by assumption) (by assumption))
    | exact sig_fin (muts_3a (p := ⟨w, mem, inn, c⟩) (by assumption) (by assumption))
    | exact sig_fin (muts_3b (p := ⟨w, mem, inn, c⟩) (by assumption) (by assumption) (by assumption))
    | exact sig_fin (muts_3c (p := ⟨w, mem, inn, c⟩) (by assumption) (ins_c3 (ins_at hp (by assumption)) (by assumption)) (by assumption) (by assumption))
    | exact sig_fin (muts_1s (p := ⟨w, mem, inn, c⟩) (ins_at hp (by assumption)) (by assumption))
    | exact sig_fin (muts_3s (p := ⟨w, mem, inn, c⟩) (by assumption) (muts_3a (by assumption) (by assumption)))
    | exact sig_fin (muts_3s (p := ⟨w, mem, inn, c⟩) (by assumption) (muts_3b (by assumption) (by assumption) (by assumption)))
    | exact sig_fin (muts_3s (p := ⟨w, mem, inn, c⟩) (by assumption) (muts_3c (by assumption) (ins_c3 (ins_at hp (by assumption)) (by assumption)) (by assumption) (by assumption)))
    | exact congrArg (Dat.seq .progs) (by rw [show k = c.length from by omega])
set_option maxRecDepth 100000 in
theorem i_MutantsOf0 (w mem inn : Int) (c : List V.Ins) (hp : progP ⟨w, mem, inn, c⟩ = false) : CallsV Try.prog 10 [.agg [.dat (.i w), .dat (.i mem), .dat (.i inn), .dat (.seq .inss c)]] (.nils) := by
  refine CallsV.of_awp tauOk mixOk Try.func10 rfl rfl rfl ?_
  conv => whnf
  repeat' (first
    | ((with_reducible refine Alt.l ?_); conv => whnf)
    | ((with_reducible refine fun (K1 : AX → AState → Prop) hK => ?_); conv => whnf)
    | ((with_reducible show K1 _ _); subst hK; conv => whnf)
    | (with_reducible exact rfl)
    | ((with_reducible refine sp_T ?_); conv => whnf)
    | ((with_reducible refine sp_F ?_); conv => whnf)
    | ((with_reducible refine sp_T' ?_); conv => whnf)
    | ((with_reducible refine sp_F' ?_); conv => whnf)
    | ((with_reducible refine sp_dF ?_ ?_); decide; conv => whnf)
    | ((with_reducible refine sp_dT ?_ ?_); decide; conv => whnf)
    | ((with_reducible refine sp_d (fun h => ?_) (fun h => ?_)) <;> first | contradiction | (subst h; conv => whnf) | (conv => whnf))
    | ((with_reducible refine sp_d' (fun h => ?_) (fun h => ?_)) <;> first | contradiction | (subst h; conv => whnf) | (conv => whnf))
    | ((with_reducible refine sp_eF ?_ ?_); decide; conv => whnf)
    | ((with_reducible refine sp_eT ?_); conv => whnf)
    | ((with_reducible refine sp_e (fun h => ?_) (fun h => ?_)) <;> first | contradiction | (subst h; conv => whnf) | (conv => whnf))
    | ((with_reducible refine sp_e' (fun h => ?_) (fun h => ?_)) <;> first | contradiction | (subst h; conv => whnf) | (conv => whnf))
    | ((with_reducible refine sp_n (fun h => ?_) (fun h => ?_)) <;> first | contradiction | (subst h; conv => whnf) | (conv => whnf))
    | ((with_reducible refine sp_n' (fun h => ?_) (fun h => ?_)) <;> first | contradiction | (subst h; conv => whnf) | (conv => whnf))
    | ((with_reducible refine sp_nb (fun h => ?_) (fun h => ?_)) <;> first | contradiction | (conv => whnf))
    | ((with_reducible refine sp_nb' (fun h => ?_) (fun h => ?_)) <;> first | contradiction | (conv => whnf))
    | ((with_reducible refine sp_b (fun h => ?_) (fun h => ?_)) <;> first | contradiction | (conv => whnf))
    | ((with_reducible refine sp_b' (fun h => ?_) (fun h => ?_)) <;> first | contradiction | (conv => whnf))
    | (refine ⟨(rfl : nodupB _ = true), rfl, ?_⟩; conv => whnf)
    | (with_reducible refine bnd2 ?_ ?_)
    | (with_reducible refine bnd2' ?_ ?_)
    | (with_reducible refine bndN ?_ ?_)
    | ((with_reducible refine and_of ?_ ?_); conv => whnf)
    | ((with_reducible refine pcI (g := 57) ?_); refine ⟨_, i_ProgramOk .., rfl, ?_⟩; rotate_right; conv => whnf)
    | ((with_reducible show Exists _); refine Exists.intro _ (And.intro (i_ProgramOk ..) (And.intro rfl ?_)); rotate_right; conv => whnf)
    | ((with_reducible refine pcI (g := 58) ?_); refine ⟨_, i_replaced (h0 := ?_) (h1 := ?_) (hk := ?_) .., rfl, ?_⟩; rotate_right; conv => whnf)
    | ((with_reducible show Exists _); refine Exists.intro _ (And.intro (i_replaced (h0 := ?_) (h1 := ?_) (hk := ?_) ..) (And.intro rfl ?_)); rotate_right; conv => whnf)
    | ((with_reducible refine pcI (g := 59) ?_); refine ⟨_, i_WordOf .., rfl, ?_⟩; rotate_right; conv => whnf)
    | ((with_reducible show Exists _); refine Exists.intro _ (And.intro (i_WordOf ..) (And.intro rfl ?_)); rotate_right; conv => whnf)
    | ((with_reducible show awpOps _ _ _ _ _ _); conv => whnf)
    | (intro h; conv => whnf))
  all_goals (repeat (clear hK; clear K1))
  all_goals first | rfl | trivial | exact absurd ((show progP _ = true by assumption).symm.trans hp) Bool.noConfusion
set_option maxRecDepth 100000 in
theorem s_MutantsOf0 (w mem inn : Int) (c : List V.Ins) (hp : progP ⟨w, mem, inn, c⟩ = false) : CallsV Try.prog 11 [.agg [.dat (.i w), .dat (.i mem), .dat (.i inn), .dat (.seq .inss c)]] (.nils) := by
  refine CallsV.of_awp tauOk mixOk Try.func11 rfl rfl rfl ?_
  conv => whnf
  repeat' (first
    | ((with_reducible refine Alt.l ?_); conv => whnf)
    | ((with_reducible refine fun (K1 : AX → AState → Prop) hK => ?_); conv => whnf)
    | ((with_reducible show K1 _ _); subst hK; conv => whnf)
    | (with_reducible exact rfl)
    | ((with_reducible refine sp_T ?_); conv => whnf)
    | ((with_reducible refine sp_F ?_); conv => whnf)
    | ((with_reducible refine sp_T' ?_); conv => whnf)
    | ((with_reducible refine sp_F' ?_); conv => whnf)
    | ((with_reducible refine sp_dF ?_ ?_); decide; conv => whnf)
    | ((with_reducible refine sp_dT ?_ ?_); decide; conv => whnf)
    | ((with_reducible refine sp_d (fun h => ?_) (fun h => ?_)) <;> first | contradiction | (subst h; conv => whnf) | (conv => whnf))
    | ((with_reducible refine sp_d' (fun h => ?_) (fun h => ?_)) <;> first | contradiction | (subst h; conv => whnf) | (conv => whnf))
    | ((with_reducible refine sp_eF ?_ ?_); decide; conv => whnf)
    | ((with_reducible refine sp_eT ?_); conv => whnf)
    | ((with_reducible refine sp_e (fun h => ?_) (fun h => ?_)) <;> first | contradiction | (subst h; conv => whnf) | (conv => whnf))
    | ((with_reducible refine sp_e' (fun h => ?_) (fun h => ?_)) <;> first | contradiction | (subst h; conv => whnf) | (conv => whnf))
    | ((with_reducible refine sp_n (fun h => ?_) (fun h => ?_)) <;> first | contradiction | (subst h; conv => whnf) | (conv => whnf))
    | ((with_reducible refine sp_n' (fun h => ?_) (fun h => ?_)) <;> first | contradiction | (subst h; conv => whnf) | (conv => whnf))
    | ((with_reducible refine sp_nb (fun h => ?_) (fun h => ?_)) <;> first | contradiction | (conv => whnf))
    | ((with_reducible refine sp_nb' (fun h => ?_) (fun h => ?_)) <;> first | contradiction | (conv => whnf))
    | ((with_reducible refine sp_b (fun h => ?_) (fun h => ?_)) <;> first | contradiction | (conv => whnf))
    | ((with_reducible refine sp_b' (fun h => ?_) (fun h => ?_)) <;> first | contradiction | (conv => whnf))
    | (refine ⟨(rfl : nodupB _ = true), rfl, ?_⟩; conv => whnf)
    | (with_reducible refine bnd2 ?_ ?_)
    | (with_reducible refine bnd2' ?_ ?_)
    | (with_reducible refine bndN ?_ ?_)
    | ((with_reducible refine and_of ?_ ?_); conv => whnf)
    | ((with_reducible refine pcI (g := 14) ?_); refine ⟨_, s_ProgramOk .., rfl, ?_⟩; rotate_right; conv => whnf)
    | ((with_reducible show Exists _); refine Exists.intro _ (And.intro (s_ProgramOk ..) (And.intro rfl ?_)); rotate_right; conv => whnf)
    | ((with_reducible refine pcI (g := 60) ?_); refine ⟨_, s_WordOf .., rfl, ?_⟩; rotate_right; conv => whnf)
    | ((with_reducible show Exists _); refine Exists.intro _ (And.intro (s_WordOf ..) (And.intro rfl ?_)); rotate_right; conv => whnf)
    | ((with_reducible refine pcI (g := 61) ?_); refine ⟨_, s_l09With (h0 := ?_) (h1 := ?_) (hk := ?_) .., rfl, ?_⟩; rotate_right; conv => whnf)
    | ((with_reducible show Exists _); refine Exists.intro _ (And.intro (s_l09With (h0 := ?_) (h1 := ?_) (hk := ?_) ..) (And.intro rfl ?_)); rotate_right; conv => whnf)
    | ((with_reducible show awpOps _ _ _ _ _ _); conv => whnf)
    | (intro h; conv => whnf))
  all_goals (repeat (clear hK; clear K1))
  all_goals first | rfl | trivial | exact absurd ((show progP _ = true by assumption).symm.trans hp) Bool.noConfusion
end Vg
