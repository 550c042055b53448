/- The edges of runs: contracts of what makes them ascending, and of edgesOf and l09Cover. Condition: the program and the inputs are in order. -/
import Derived.Test.YtnjkencoohaheaaRuns
import Derived.Test.YtnjkencoohaheaaShelf
import Derived.Test.YtnjkencoohaheaaShelf
namespace Vg
open Go Go.Proofs
theorem g_Sort (l : List Int) (hl : l.length ≤ 1000000000) : CallsG Try.prog 122 [.row 0] [.row 3 .ints l false] 1 (fun res B => res = .tup [] ∧ B = [.row 3 .ints (sorted l) false]) :=
  sortG Try.lays189 rfl ⟨_, Try.func122, rfl, rfl⟩ (by omega)
theorem g_Compact (l : List Int) (hl : l.length ≤ 1000000000) : CallsG Try.prog 123 [.row 0] [.row 3 .ints l false] 0 (fun res B => res = .row 0 ∧ B = [.row 3 .ints (Lib.compact l) false]) :=
  compactG Try.laysNm220 rfl ⟨_, Try.func123, rfl, rfl⟩ (by omega)
theorem sorted_small {l : List Int} (h : l.length ≤ 1000000000) : (sorted l).length ≤ 1000000000 := by rw [List.length_mergeSort]; exact h
set_option maxRecDepth 100000 in
theorem i_ascending (l : List Int) (hl : l.length ≤ 1000000000) : CallsG Try.prog 90 [.row 0] [.row 3 .ints l false] 0 (fun res B => res = .row 0 ∧ B = [.row 3 .ints (asc l) false]) := by
  refine CallsG.of_awp tauOk mixOk Try.func90 rfl rfl rfl ?_
  conv => whnf
  repeat' (first
    | ((with_reducible refine Alt.l ?_); conv => whnf)
    | ((with_reducible refine fun (K1 : AX → AState → Prop) hK => ?_); conv => whnf)
    | ((with_reducible show K1 _ _); subst hK; conv => whnf)
    | (with_reducible exact rfl)
    | ((with_reducible refine sp_T ?_); conv => whnf)
    | ((with_reducible refine sp_F ?_); conv => whnf)
    | ((with_reducible refine sp_T' ?_); conv => whnf)
    | ((with_reducible refine sp_F' ?_); conv => whnf)
    | ((with_reducible refine sp_dF ?_ ?_); decide; conv => whnf)
    | ((with_reducible refine sp_dT ?_ ?_); decide; conv => whnf)
    | ((with_reducible refine sp_d (fun h => ?_) (fun h => ?_)) <;> first | contradiction | (subst h; conv => whnf) | (conv => whnf))
    | ((with_reducible refine sp_d' (fun h => ?_) (fun h => ?_)) <;> first | contradiction | (subst h; conv => whnf) | (conv => whnf))
    | ((with_reducible refine sp_eF ?_ ?_); decide; conv => whnf)
    | ((with_reducible refine sp_eT ?_); conv => whnf)
    | ((with_reducible refine sp_e (fun h => ?_) (fun h => ?_)) <;> first | contradiction | (subst h; conv => whnf) | (conv => whnf))
    | ((with_reducible refine sp_e' (fun h => ?_) (fun h => ?_)) <;> first | contradiction | (subst h; conv => whnf) | (conv => whnf))
    | ((with_reducible refine sp_n (fun h => ?_) (fun h => ?_)) <;> first | contradiction | (subst h; conv => whnf) | (conv => whnf))
    | ((with_reducible refine sp_n' (fun h => ?_) (fun h => ?_)) <;> first | contradiction | (subst h; conv => whnf) | (conv => whnf))
    | ((with_reducible refine sp_nb (fun h => ?_) (fun h => ?_)) <;> first | (exact Bool.noConfusion (Eq.trans (Eq.symm h) (show _ = true by with_reducible assumption))) | (exact Bool.noConfusion (Eq.trans (Eq.symm (show _ = false by with_reducible assumption)) h)) | (conv => whnf))
    | ((with_reducible refine sp_nb' (fun h => ?_) (fun h => ?_)) <;> first | (exact Bool.noConfusion (Eq.trans (Eq.symm h) (show _ = true by with_reducible assumption))) | (exact Bool.noConfusion (Eq.trans (Eq.symm (show _ = false by with_reducible assumption)) h)) | (conv => whnf))
    | ((with_reducible refine sp_b (fun h => ?_) (fun h => ?_)) <;> first | (exact Bool.noConfusion (Eq.trans (Eq.symm h) (show _ = true by with_reducible assumption))) | (exact Bool.noConfusion (Eq.trans (Eq.symm (show _ = false by with_reducible assumption)) h)) | (conv => whnf))
    | ((with_reducible refine sp_b' (fun h => ?_) (fun h => ?_)) <;> first | (exact Bool.noConfusion (Eq.trans (Eq.symm h) (show _ = true by with_reducible assumption))) | (exact Bool.noConfusion (Eq.trans (Eq.symm (show _ = false by with_reducible assumption)) h)) | (conv => whnf))
    | (refine ⟨(rfl : nodupB _ = true), rfl, ?_⟩; conv => whnf)
    | (with_reducible refine bnd2 ?_ ?_)
    | (with_reducible refine bnd2' ?_ ?_)
    | (with_reducible refine bndN ?_ ?_)
    | ((with_reducible refine and_of ?_ ?_); conv => whnf)
    | ((with_reducible refine gcI (g := 122) ?_); refine ⟨_, _, g_Sort (hl := ?_) .., fun res B hRB => ?_⟩; rotate_right; obtain ⟨rfl, rfl⟩ := hRB; conv => whnf)
    | ((with_reducible refine gcI (g := 123) ?_); refine ⟨_, _, g_Compact (hl := ?_) .., fun res B hRB => ?_⟩; rotate_right; obtain ⟨rfl, rfl⟩ := hRB; conv => whnf)
    | ((with_reducible show awpOps _ _ _ _ _ _); conv => whnf)
    | (intro h; conv => whnf))
  all_goals (repeat (clear hK; clear K1))
  all_goals first | (with_reducible assumption) | exact sorted_small hl | rfl | skip
theorem ins_go {l : List Int} {x : Int} {k : Nat} (hk : ∀ j, j < k → l.getD j 0 < x) (h : l.getD k 0 < x) : ∀ j, j < k + 1 → l.getD j 0 < x := fun j hj => by
  rcases Nat.lt_or_ge j k with h1 | h1
  · exact hk j h1
  · have : j = k := by omega
    subst this; exact h
theorem ins_new' {l : List Int} {x : Int} {k : Nat} (hk : k ≤ l.length) (hj : ∀ j, j < k → l.getD j 0 < x) (h1 : ¬ l.getD ((k : Int)).toNat K.ints.dflt < x) (h2 : ¬ l.getD ((k : Int)).toNat K.ints.dflt = x) : insM x l = l.take k ++ [x] ++ l.drop k :=
  ins_new hk hj fun _ => by
    rw [Int.toNat_natCast] at h1 h2
    have e : K.ints.dflt = (0 : Int) := rfl
    rw [e] at h1 h2; omega
theorem ins_new_e {l : List Int} {x : Int} {k : Nat} (hk : k ≤ l.length) (hj : ∀ j, j < k → l.getD j 0 < x) (h : ¬ (k : Int) < l.length) : insM x l = l.take k ++ [x] ++ l.drop k :=
  ins_new hk hj fun h' => absurd h' (by omega)
theorem ins_same' {l : List Int} {x : Int} {k : Nat} (h : (k : Int) < l.length) (hj : ∀ j, j < k → l.getD j 0 < x) (h2 : l.getD ((k : Int)).toNat K.ints.dflt = x) : insM x l = l := by
  rw [Int.toNat_natCast] at h2
  exact ins_same (by omega) hj h2
structure InsI (l : List Int) (x : Int) (k : Nat) : Prop where
  le : k ≤ l.length
  lt : ∀ j, j < k → l.getD j 0 < x
theorem insI_0 (l : List Int) (x : Int) : InsI l x 0 := ⟨Nat.zero_le _, fun j hj => absurd hj (Nat.not_lt_zero j)⟩
theorem insI_1 {l : List Int} {x : Int} {k : Nat} (h : InsI l x k) (hk : (k : Int) < l.length) (hx : l.getD ((k : Int)).toNat K.ints.dflt < x) : InsI l x (k + 1) := ⟨by omega, ins_go h.lt hx⟩
set_option maxRecDepth 100000 in
theorem s_Insert (l : List Int) (x : Int) (hl : l.length ≤ 1048576) : CallsG Try.prog 124 [.row 0, .dat (.i x)] [.row 3 .ints l false] 0 (fun res B => res = .row 0 ∧ B = [.row 3 .ints (insM x l) false]) := by
  refine CallsG.of_awp tauOk mixOk Try.func124 rfl rfl rfl ?_
  conv => whnf
  repeat' (first
    | ((with_reducible refine Alt.r ?_); conv => whnf)
    | ((with_reducible refine fun (K1 : AX → AState → Prop) hK => ?_); conv => whnf)
    | ((with_reducible show K1 _ _); subst hK; conv => whnf)
    | (with_reducible exact rfl)
    | ((with_reducible refine sp_T ?_); conv => whnf)
    | ((with_reducible refine sp_F ?_); conv => whnf)
    | ((with_reducible refine sp_T' ?_); conv => whnf)
    | ((with_reducible refine sp_F' ?_); conv => whnf)
    | ((with_reducible refine sp_dF ?_ ?_); decide; conv => whnf)
    | ((with_reducible refine sp_dT ?_ ?_); decide; conv => whnf)
    | ((with_reducible refine sp_d (fun h => ?_) (fun h => ?_)) <;> first | contradiction | (subst h; conv => whnf) | (conv => whnf))
    | ((with_reducible refine sp_d' (fun h => ?_) (fun h => ?_)) <;> first | contradiction | (subst h; conv => whnf) | (conv => whnf))
    | ((with_reducible refine sp_eF ?_ ?_); decide; conv => whnf)
    | ((with_reducible refine sp_eT ?_); conv => whnf)
    | ((with_reducible refine sp_e (fun h => ?_) (fun h => ?_)) <;> first | contradiction | (subst h; conv => whnf) | (conv => whnf))
    | ((with_reducible refine sp_e' (fun h => ?_) (fun h => ?_)) <;> first | contradiction | (subst h; conv => whnf) | (conv => whnf))
    | ((with_reducible refine sp_n (fun h => ?_) (fun h => ?_)) <;> first | contradiction | (subst h; conv => whnf) | (conv => whnf))
    | ((with_reducible refine sp_n' (fun h => ?_) (fun h => ?_)) <;> first | contradiction | (subst h; conv => whnf) | (conv => whnf))
    | ((with_reducible refine sp_nb (fun h => ?_) (fun h => ?_)) <;> first | (exact Bool.noConfusion (Eq.trans (Eq.symm h) (show _ = true by with_reducible assumption))) | (exact Bool.noConfusion (Eq.trans (Eq.symm (show _ = false by with_reducible assumption)) h)) | (conv => whnf))
    | ((with_reducible refine sp_nb' (fun h => ?_) (fun h => ?_)) <;> first | (exact Bool.noConfusion (Eq.trans (Eq.symm h) (show _ = true by with_reducible assumption))) | (exact Bool.noConfusion (Eq.trans (Eq.symm (show _ = false by with_reducible assumption)) h)) | (conv => whnf))
    | ((with_reducible refine sp_b (fun h => ?_) (fun h => ?_)) <;> first | (exact Bool.noConfusion (Eq.trans (Eq.symm h) (show _ = true by with_reducible assumption))) | (exact Bool.noConfusion (Eq.trans (Eq.symm (show _ = false by with_reducible assumption)) h)) | (conv => whnf))
    | ((with_reducible refine sp_b' (fun h => ?_) (fun h => ?_)) <;> first | (exact Bool.noConfusion (Eq.trans (Eq.symm h) (show _ = true by with_reducible assumption))) | (exact Bool.noConfusion (Eq.trans (Eq.symm (show _ = false by with_reducible assumption)) h)) | (conv => whnf))
    | (refine ⟨(rfl : nodupB _ = true), rfl, ?_⟩; conv => whnf)
    | (with_reducible refine bnd2 ?_ ?_)
    | (with_reducible refine bnd2' ?_ ?_)
    | (with_reducible refine bndN ?_ ?_)
    | ((with_reducible refine and_of ?_ ?_); conv => whnf)
    | (refine Exists.intro ({k : Nat // InsI l x k}) (Exists.intro (fun ⟨k, hk⟩ => mkS Try.f124.ntmps [(0, .row 900000), (1, .dat (.i x)), (5, .dat (.i k))] [(900000, .row 3 .ints l false)]) (Exists.intro (fun ⟨k, hk⟩ => l.length - k) (Exists.intro ⟨0, insI_0 l x⟩ (And.intro (SubP.sub (σ := [(900000, some 900000)]) ⟨⟨rfl, rfl, rfl⟩, ⟨rfl, (wk_dat ?_), (wk_dat ?_), trivial⟩, ⟨⟨⟨rfl, rfl⟩, ?_⟩, trivial⟩⟩) (fun ⟨k, hk⟩ => ?_))))); rotate_right; conv => whnf)
    | (refine Exists.intro (⟨k + 1, ?_⟩ : {k : Nat // InsI l x k}) (And.intro ?_ (SubP.sub (σ := [(900000, some 900000)]) ⟨⟨rfl, rfl, rfl⟩, ⟨rfl, (wk_dat ?_), (wk_dat ?_), trivial⟩, ⟨⟨⟨rfl, rfl⟩, ?_⟩, trivial⟩⟩)))
    | ((with_reducible show awpOps _ _ _ _ _ _); conv => whnf)
    | (intro h; conv => whnf))
  all_goals (repeat (clear hK; clear K1))
  all_goals first
    | (with_reducible assumption)
    | (with_reducible rfl)
    | omega
    | (dsimp only; omega)
    | exact Int.ofNat_le.mpr hk.le
    | (have hm : maxLen = 9223372036854775807 := rfl; omega)
    | exact insI_1 hk (by with_reducible assumption) (by with_reducible assumption)
    | exact congrArg (Dat.int .i64) (wrap_id (by omega) (by omega)).symm
    | exact row_fin (ins_same' (by with_reducible assumption) hk.lt rfl).symm
    | exact row_fin (ins_new' hk.le hk.lt (by with_reducible assumption) (by with_reducible assumption)).symm
    | exact row_fin (ins_new_e hk.le hk.lt (by with_reducible assumption)).symm
    | (show ((([] : List Int) ++ l.take k ++ [x]).length + (l.drop k).length) * 8 ≤ 140737488355328; simp; omega)
    | (show (([] : List Int) ++ l.take k ++ [x]).length + (l.drop k).length ≤ maxLen; have hm : maxLen = 9223372036854775807 := rfl; simp; omega)
    | (show ((([] : List Int) ++ l.take k).length + [x].length) * 8 ≤ 140737488355328; simp; omega)
    | (show (([] : List Int) ++ l.take k).length + [x].length ≤ maxLen; have hm : maxLen = 9223372036854775807 := rfl; simp; omega)
    | (show ((([] : List Int)).length + (l.take k).length) * 8 ≤ 140737488355328; simp; omega)
    | (show (([] : List Int)).length + (l.take k).length ≤ maxLen; have hm : maxLen = 9223372036854775807 := rfl; simp; omega)
    | rfl
    | skip
/-- what an edge is called -/
def edgeAt (p : V.Prog) (s : V.State) : List Int :=
  if s.code = 0 ∧ s.steps < 400 ∧ s.pc < p.code.length ∧ (p.code.getD s.pc.toNat K.inss.dflt).op = 10 then [2 * s.pc + truthP (decide (s.regs.getD (p.code.getD s.pc.toNat K.inss.dflt).a.toNat K.ints.dflt = 0))] else []
def rawTo (p : V.Prog) (inp : List Int) : Nat → List Int
  | 0 => []
  | k + 1 => rawTo p inp k ++ edgeAt p (runM p inp k)
theorem edge_len (p : V.Prog) (s : V.State) : (edgeAt p s).length ≤ 1 := by unfold edgeAt; split <;> simp
theorem raw_len (p : V.Prog) (inp : List Int) (k : Nat) : (rawTo p inp k).length ≤ k := by
  induction k with
  | zero => simp [rawTo]
  | succ k ih => have := edge_len p (runM p inp k); simp only [rawTo, List.length_append]; omega
theorem edge_yes {p : V.Prog} {s : V.State} (h1 : s.code = 0) (h2 : s.steps < 400) (h3 : s.pc < p.code.length) (h4 : (p.code.getD s.pc.toNat K.inss.dflt).op = 10) :
    edgeAt p s = [2 * s.pc + truthP (decide (s.regs.getD (p.code.getD s.pc.toNat K.inss.dflt).a.toNat K.ints.dflt = 0))] := by unfold edgeAt; rw [if_pos ⟨h1, h2, h3, h4⟩]
theorem edge_no {p : V.Prog} {s : V.State} (h : ¬ (s.code = 0 ∧ s.steps < 400 ∧ s.pc < p.code.length ∧ (p.code.getD s.pc.toNat K.inss.dflt).op = 10)) : edgeAt p s = [] := by unfold edgeAt; rw [if_neg h]
theorem raw_fix {p : V.Prog} {inp : List Int} {k m : Nat} (h : ¬ ((runM p inp k).code = 0 ∧ (runM p inp k).steps < 400)) (hm : k ≤ m) : rawTo p inp m = rawTo p inp k := by
  obtain ⟨d, rfl⟩ : ∃ d, m = k + d := ⟨m - k, by omega⟩
  clear hm
  have hr : ∀ d, runM p inp (k + d) = runM p inp k := fun d => by
    induction d with
    | zero => rfl
    | succ d ih => show stepM p (runM p inp (k + d)) inp = _; rw [ih]; exact step_0 h
  induction d with
  | zero => rfl
  | succ d ih =>
    show rawTo p inp (k + d) ++ edgeAt p (runM p inp (k + d)) = _
    rw [ih, hr, edge_no (fun x => h ⟨x.1, x.2.1⟩), List.append_nil]
/-- the run has come to its end -/
theorem raw_end {p : V.Prog} {inp : List Int} {k m : Nat} (h : (runM p inp k).pc = p.code.length) (hm : k ≤ m) : rawTo p inp m = rawTo p inp k := by
  by_cases h0 : (runM p inp k).code = 0 ∧ (runM p inp k).steps < 400
  · rcases Nat.lt_or_ge k m with h1 | h1
    · have hc : ¬ ((runM p inp (k + 1)).code = 0 ∧ (runM p inp (k + 1)).steps < 400) := by
        show ¬ ((stepM p (runM p inp k) inp).code = 0 ∧ _)
        unfold stepM
        rw [if_pos h0, if_pos h]
        intro x; exact absurd (show (2 : Int) = 0 from x.1) (by decide)
      rw [raw_fix hc (by omega)]
      show rawTo p inp k ++ edgeAt p (runM p inp k) = _
      rw [edge_no (fun x => by have := x.2.2.1; omega), List.append_nil]
    · rw [show m = k from by omega]
  · exact raw_fix h0 hm
theorem cfuel_b {fuel : Int} (h : inP fuel 0 400 = true) : 0 ≤ fuel ∧ fuel ≤ 400 := by simpa [inP] using h
theorem cov_a {w mem inn : Int} {c : List V.Ins} (hp : progP ⟨w, mem, inn, c⟩ = true) {pc : Int} (h0 : 0 ≤ pc) (h : pc < c.length) (ho : (c.getD pc.toNat K.inss.dflt).op = 10) : 0 ≤ (c.getD pc.toNat K.inss.dflt).a ∧ (c.getD pc.toNat K.inss.dflt).a < 4 := by
  have h1 := prog_ins hp (k := pc.toNat) (show pc.toNat < c.length by omega)
  change insP (c.getD pc.toNat K.inss.dflt) _ _ = true at h1
  generalize c.getD pc.toNat K.inss.dflt = x at h1 ho ⊢
  obtain ⟨op, a, b, d⟩ := x
  exact ins_a h1 (by simp only at ho; omega)
theorem cov_mov {s : V.State} (h : (decide (s.code = 0) && decide (s.steps < 400)) = true) : s.code = 0 ∧ s.steps < 400 := by simpa using h
theorem cov_stop {s : V.State} (h : (decide (s.code = 0) && decide (s.steps < 400)) = false) : ¬ (s.code = 0 ∧ s.steps < 400) := by simpa using h
theorem cov_x {w mem inn : Int} {c : List V.Ins} {inp : List Int} {k : Nat} (hi : inputsP ⟨w, mem, inn, c⟩ inp = true) : IntKind.i64.wrap (IntKind.i64.wrap (2 * (runM ⟨w, mem, inn, c⟩ inp k).pc) + truthP ((runM ⟨w, mem, inn, c⟩ inp k).regs.getD (c.getD (runM ⟨w, mem, inn, c⟩ inp k).pc.toNat K.inss.dflt).a.toNat K.ints.dflt == 0))
    = 2 * (runM ⟨w, mem, inn, c⟩ inp k).pc + truthP (decide ((runM ⟨w, mem, inn, c⟩ inp k).regs.getD (c.getD (runM ⟨w, mem, inn, c⟩ inp k).pc.toNat K.inss.dflt).a.toNat K.ints.dflt = 0)) := by
  have h := (run_ok hi k).pc
  have h1 : c.length ≤ 40 := by have := (prog_w (inp_p hi)).2.2.2.1; simp only at this; omega
  have h2 : ∀ b, 0 ≤ truthP b ∧ truthP b ≤ 1 := fun b => by cases b <;> decide
  have h3 := h2 ((runM ⟨w, mem, inn, c⟩ inp k).regs.getD (c.getD (runM ⟨w, mem, inn, c⟩ inp k).pc.toNat K.inss.dflt).a.toNat K.ints.dflt == 0)
  simp only at h
  rw [wrap_id (n := 2 * _) (by omega) (by omega), wrap_id (by omega) (by omega)]; rfl
theorem raw_yes {w mem inn : Int} {c : List V.Ins} {inp : List Int} {k : Nat} (hi : inputsP ⟨w, mem, inn, c⟩ inp = true) (h1 : (decide ((runM ⟨w, mem, inn, c⟩ inp k).code = 0) && decide ((runM ⟨w, mem, inn, c⟩ inp k).steps < 400)) = true)
    (h3 : (runM ⟨w, mem, inn, c⟩ inp k).pc < c.length) (h4 : (c.getD (runM ⟨w, mem, inn, c⟩ inp k).pc.toNat K.inss.dflt).op = 10) :
    rawTo ⟨w, mem, inn, c⟩ inp (k + 1) = rawTo ⟨w, mem, inn, c⟩ inp k ++ [IntKind.i64.wrap (IntKind.i64.wrap (2 * (runM ⟨w, mem, inn, c⟩ inp k).pc) + truthP ((runM ⟨w, mem, inn, c⟩ inp k).regs.getD (c.getD (runM ⟨w, mem, inn, c⟩ inp k).pc.toNat K.inss.dflt).a.toNat K.ints.dflt == 0))] := by
  rw [cov_x hi]
  show rawTo ⟨w, mem, inn, c⟩ inp k ++ edgeAt ⟨w, mem, inn, c⟩ (runM ⟨w, mem, inn, c⟩ inp k) = _
  rw [edge_yes (cov_mov h1).1 (cov_mov h1).2 h3 h4]
theorem raw_no {p : V.Prog} {inp : List Int} {k : Nat} (h : ¬ ((runM p inp k).pc < p.code.length ∧ (p.code.getD (runM p inp k).pc.toNat K.inss.dflt).op = 10)) : rawTo p inp (k + 1) = rawTo p inp k := by
  show rawTo p inp k ++ edgeAt p (runM p inp k) = _
  rw [edge_no (fun x => h x.2.2), List.append_nil]
theorem raw_all {p : V.Prog} {inp : List Int} {k : Nat} {fuel : Int} (hk : k ≤ fuel.toNat) (h : ¬ (k : Int) < fuel) : rawTo p inp k = rawTo p inp fuel.toNat := by rw [show k = fuel.toNat from by omega]
set_option maxHeartbeats 8000000 in
set_option maxRecDepth 100000 in
theorem i_edgesOf (w mem inn : Int) (c : List V.Ins) (inp : List Int) (fuel : Int) (hp : progP ⟨w, mem, inn, c⟩ = true) (hi : inputsP ⟨w, mem, inn, c⟩ inp = true) (hf : inP fuel 0 400 = true) : CallsF Try.prog 97 [.agg [.dat (.i w), .dat (.i mem), .dat (.i inn), .dat (.seq .inss c)], .dat (.seq .ints inp), .dat (.i fuel)] true (fun res B => res = .row 0 ∧ B = [.row 3 .ints (asc (rawTo ⟨w, mem, inn, c⟩ inp fuel.toNat)) false]) := by
  refine CallsF.of_awp tauOk mixOk Try.func97 rfl rfl rfl ?_
  conv => whnf
  repeat' (first
    | ((with_reducible refine Alt.l ?_); conv => whnf)
    | ((with_reducible refine fun (K1 : AX → AState → Prop) hK => ?_); conv => whnf)
    | ((with_reducible show K1 _ _); subst hK; conv => whnf)
    | (with_reducible exact rfl)
    | ((with_reducible refine sp_T ?_); conv => whnf)
    | ((with_reducible refine sp_F ?_); conv => whnf)
    | ((with_reducible refine sp_T' ?_); conv => whnf)
    | ((with_reducible refine sp_F' ?_); conv => whnf)
    | ((with_reducible refine sp_dF ?_ ?_); decide; conv => whnf)
    | ((with_reducible refine sp_dT ?_ ?_); decide; conv => whnf)
    | ((with_reducible refine sp_d (fun h => ?_) (fun h => ?_)) <;> first | contradiction | (subst h; conv => whnf) | (conv => whnf))
    | ((with_reducible refine sp_d' (fun h => ?_) (fun h => ?_)) <;> first | contradiction | (subst h; conv => whnf) | (conv => whnf))
    | ((with_reducible refine sp_eF ?_ ?_); decide; conv => whnf)
    | ((with_reducible refine sp_eT ?_); conv => whnf)
    | ((with_reducible refine sp_e (fun h => ?_) (fun h => ?_)) <;> first | contradiction | (subst h; conv => whnf) | (conv => whnf))
    | ((with_reducible refine sp_e' (fun h => ?_) (fun h => ?_)) <;> first | contradiction | (subst h; conv => whnf) | (conv => whnf))
    | ((with_reducible refine sp_n (fun h => ?_) (fun h => ?_)) <;> first | contradiction | (subst h; conv => whnf) | (conv => whnf))
    | ((with_reducible refine sp_n' (fun h => ?_) (fun h => ?_)) <;> first | contradiction | (subst h; conv => whnf) | (conv => whnf))
    | ((with_reducible refine sp_nb (fun h => ?_) (fun h => ?_)) <;> first | (exact Bool.noConfusion (Eq.trans (Eq.symm h) (show _ = true by with_reducible assumption))) | (exact Bool.noConfusion (Eq.trans (Eq.symm (show _ = false by with_reducible assumption)) h)) | (conv => whnf))
    | ((with_reducible refine sp_nb' (fun h => ?_) (fun h => ?_)) <;> first | (exact Bool.noConfusion (Eq.trans (Eq.symm h) (show _ = true by with_reducible assumption))) | (exact Bool.noConfusion (Eq.trans (Eq.symm (show _ = false by with_reducible assumption)) h)) | (conv => whnf))
    | ((with_reducible refine sp_b (fun h => ?_) (fun h => ?_)) <;> first | (exact Bool.noConfusion (Eq.trans (Eq.symm h) (show _ = true by with_reducible assumption))) | (exact Bool.noConfusion (Eq.trans (Eq.symm (show _ = false by with_reducible assumption)) h)) | (conv => whnf))
    | ((with_reducible refine sp_b' (fun h => ?_) (fun h => ?_)) <;> first | (exact Bool.noConfusion (Eq.trans (Eq.symm h) (show _ = true by with_reducible assumption))) | (exact Bool.noConfusion (Eq.trans (Eq.symm (show _ = false by with_reducible assumption)) h)) | (conv => whnf))
    | (refine ⟨(rfl : nodupB _ = true), rfl, ?_⟩; conv => whnf)
    | (with_reducible refine bnd2 ?_ ?_)
    | (with_reducible refine bnd2' ?_ ?_)
    | (with_reducible refine bndN ?_ ?_)
    | ((with_reducible refine and_of ?_ ?_); conv => whnf)
    | (refine Exists.intro ({k : Nat // k ≤ fuel.toNat}) (Exists.intro (fun ⟨k, hk⟩ => mkS Try.f97.ntmps [(1, .dat (.seq .ints inp)), (2, .dat (.i fuel)), (3, .ptr 3 0), (7, .row 107), (8, .ptr 8 0), (9, .dat (.i k))] [(3, .box [.dat (.i w), .dat (.i mem), .dat (.i inn), .dat (.seq .inss c)]), (8, .box [.dat (.i (runM ⟨w, mem, inn, c⟩ inp k).pc), .row 101, .row 102, .row 103, .dat (.i (runM ⟨w, mem, inn, c⟩ inp k).inn), .row 104, .dat (.i (runM ⟨w, mem, inn, c⟩ inp k).code), .dat (.i (runM ⟨w, mem, inn, c⟩ inp k).steps)]), (101, .row 3 .ints (runM ⟨w, mem, inn, c⟩ inp k).regs false), (102, .row 3 .ints (runM ⟨w, mem, inn, c⟩ inp k).mem false), (103, .row 3 .ints (runM ⟨w, mem, inn, c⟩ inp k).stack false), (104, .row 3 .ints (runM ⟨w, mem, inn, c⟩ inp k).out false), (107, .row 3 .ints (rawTo ⟨w, mem, inn, c⟩ inp k) false)]) (Exists.intro (fun ⟨k, hk⟩ => fuel.toNat - k) (Exists.intro ⟨0, Nat.zero_le _⟩ (And.intro (SubP.sub (σ := [(3, some 3), (8, some 8), (101, some 13000), (102, some 13001), (103, none), (104, none), (107, none)]) ⟨⟨rfl, rfl, rfl⟩, ⟨(wk_dat ?_), (wk_dat ?_), ⟨rfl, rfl⟩, rfl, ⟨rfl, rfl⟩, (wk_dat ?_), trivial⟩, ⟨⟨(wkC_dat ?_), (wkC_dat ?_), (wkC_dat ?_), (wkC_dat ?_), trivial⟩, ⟨(wkC_dat ?_), rfl, rfl, rfl, (wkC_dat ?_), rfl, (wkC_dat ?_), (wkC_dat ?_), trivial⟩, ⟨⟨rfl, rfl⟩, ?_⟩, ⟨⟨rfl, rfl⟩, ?_⟩, ?_, ?_, ?_, trivial⟩⟩) (fun ⟨k, hk⟩ => ?_))))); rotate_right; conv => whnf)
    | (refine Exists.intro ⟨k + 1, ?_⟩ (And.intro ?_ (SubP.sub (σ := [(3, some 3), (8, some 8), (101, some 61001), (102, some 61002), (103, some 61003), (104, some 61004), (107, some 107)]) ⟨⟨rfl, rfl, rfl⟩, ⟨(wk_dat ?_), (wk_dat ?_), ⟨rfl, rfl⟩, rfl, ⟨rfl, rfl⟩, (wk_dat ?_), trivial⟩, ⟨⟨(wkC_dat ?_), (wkC_dat ?_), (wkC_dat ?_), (wkC_dat ?_), trivial⟩, ⟨(wkC_dat ?_), rfl, rfl, rfl, (wkC_dat ?_), rfl, (wkC_dat ?_), (wkC_dat ?_), trivial⟩, ⟨⟨rfl, rfl⟩, ?_⟩, ⟨⟨rfl, rfl⟩, ?_⟩, ⟨⟨rfl, rfl⟩, ?_⟩, ⟨⟨rfl, rfl⟩, ?_⟩, ⟨⟨rfl, rfl⟩, ?_⟩, trivial⟩⟩)))
    | (refine Exists.intro ⟨k + 1, ?_⟩ (And.intro ?_ (SubP.sub (σ := [(3, some 3), (8, some 8), (101, some 61001), (102, some 61002), (103, some 61003), (104, some 61004), (107, some 57)]) ⟨⟨rfl, rfl, rfl⟩, ⟨(wk_dat ?_), (wk_dat ?_), ⟨rfl, rfl⟩, rfl, ⟨rfl, rfl⟩, (wk_dat ?_), trivial⟩, ⟨⟨(wkC_dat ?_), (wkC_dat ?_), (wkC_dat ?_), (wkC_dat ?_), trivial⟩, ⟨(wkC_dat ?_), rfl, rfl, rfl, (wkC_dat ?_), rfl, (wkC_dat ?_), (wkC_dat ?_), trivial⟩, ⟨⟨rfl, rfl⟩, ?_⟩, ⟨⟨rfl, rfl⟩, ?_⟩, ⟨⟨rfl, rfl⟩, ?_⟩, ⟨⟨rfl, rfl⟩, ?_⟩, ⟨⟨rfl, rfl⟩, ?_⟩, trivial⟩⟩)))
    | ((with_reducible refine fcI (g := 26) ?_); refine ⟨_, _, i_NewState (hp := by assumption) .., rfl, fun res B hRB => ?_⟩; rotate_right; obtain ⟨rfl, rfl⟩ := hRB; conv => whnf)
    | ((with_reducible refine gcI (g := 77) ?_); refine ⟨_, _, i_moves .., fun res B hRB => ?_⟩; rotate_right; obtain ⟨rfl, rfl⟩ := hRB; conv => whnf)
    | ((with_reducible refine pcI (g := 127) ?_); refine ⟨_, i_boolWord .., rfl, ?_⟩; rotate_right; conv => whnf)
    | ((with_reducible show Exists _); refine Exists.intro _ (And.intro (i_boolWord ..) (And.intro rfl ?_)); rotate_right; conv => whnf)
    | ((with_reducible refine gcI (g := 78) ?_); refine ⟨_, _, i_step (hp := ?_) (hM := ?_) (hin := ?_) (_hiw := ?_) .., fun res B hRB => ?_⟩; rotate_right; obtain ⟨rfl, rfl⟩ := hRB; conv => whnf)
    | ((with_reducible refine gcI (g := 90) ?_); refine ⟨_, _, i_ascending (hl := ?_) .., fun res B hRB => ?_⟩; rotate_right; obtain ⟨rfl, rfl⟩ := hRB; conv => whnf)
    | ((with_reducible show awpOps _ _ _ _ _ _); conv => whnf)
    | (intro h; conv => whnf))
  all_goals (repeat (clear hK; clear K1))
  all_goals first
    | (with_reducible rfl)
    | (with_reducible assumption)
    | (show Dat.i (runM ⟨w, mem, inn, c⟩ inp (k + 1)).pc = _; rfl)
    | (show Dat.i (runM ⟨w, mem, inn, c⟩ inp 0).pc = _; rfl)
    | (show Dat.i (runM ⟨w, mem, inn, c⟩ inp (k + 1)).inn = _; rfl)
    | (show Dat.i (runM ⟨w, mem, inn, c⟩ inp 0).inn = _; rfl)
    | (show Dat.i (runM ⟨w, mem, inn, c⟩ inp (k + 1)).code = _; rfl)
    | (show Dat.i (runM ⟨w, mem, inn, c⟩ inp 0).code = _; rfl)
    | (show Dat.i (runM ⟨w, mem, inn, c⟩ inp (k + 1)).steps = _; rfl)
    | (show Dat.i (runM ⟨w, mem, inn, c⟩ inp 0).steps = _; rfl)
    | (show (⟨K.ints, (runM ⟨w, mem, inn, c⟩ inp (k + 1)).regs⟩ : (κ : K) × List κ.T) = _; rfl)
    | (show (⟨K.ints, (runM ⟨w, mem, inn, c⟩ inp 0).regs⟩ : (κ : K) × List κ.T) = _; rfl)
    | (show (⟨K.ints, (runM ⟨w, mem, inn, c⟩ inp (k + 1)).mem⟩ : (κ : K) × List κ.T) = _; rfl)
    | (show (⟨K.ints, (runM ⟨w, mem, inn, c⟩ inp 0).mem⟩ : (κ : K) × List κ.T) = _; rfl)
    | (show (⟨K.ints, (runM ⟨w, mem, inn, c⟩ inp (k + 1)).stack⟩ : (κ : K) × List κ.T) = _; rfl)
    | (show (⟨K.ints, (runM ⟨w, mem, inn, c⟩ inp 0).stack⟩ : (κ : K) × List κ.T) = _; rfl)
    | (show (⟨K.ints, (runM ⟨w, mem, inn, c⟩ inp (k + 1)).out⟩ : (κ : K) × List κ.T) = _; rfl)
    | (show (⟨K.ints, (runM ⟨w, mem, inn, c⟩ inp 0).out⟩ : (κ : K) × List κ.T) = _; rfl)
    | exact run_ok hi k
    | exact inp_len hi
    | exact inp_w hi
    | exact inp_w hi _ (by with_reducible assumption)
    | exact (rfl : Dat.i ((0 : Nat) : Int) = Dat.int .i64 0)
    | (have q := cfuel_b hf; omega)
    | (have q := cfuel_b hf; dsimp only; omega)
    | (have q := cfuel_b hf; exact congrArg (Dat.int .i64) (wrap_id (by omega) (by omega)).symm)
    | exact (run_ok hi k).pc.1
    | exact (cov_a hp (run_ok hi k).pc.1 (by with_reducible assumption) (by with_reducible assumption)).1
    | (have q := (cov_a hp (run_ok hi k).pc.1 (by with_reducible assumption) (by with_reducible assumption)); have q2 := (run_ok hi k).regs; omega)
    | exact sig_fin (raw_yes hi (show (decide ((runM ⟨w, mem, inn, c⟩ inp k).code = 0) && decide ((runM ⟨w, mem, inn, c⟩ inp k).steps < 400)) = true by with_reducible assumption) (by with_reducible assumption) (by with_reducible assumption))
    | exact sig_fin (raw_no (fun x => absurd x.1 (by with_reducible assumption)))
    | exact sig_fin (raw_no (fun x => absurd x.2 (by with_reducible assumption)))
    | (have q := raw_len ⟨w, mem, inn, c⟩ inp k; have q2 := cfuel_b hf; show (_ + 1) * 8 ≤ 140737488355328; omega)
    | (have q := raw_len ⟨w, mem, inn, c⟩ inp k; have q2 := cfuel_b hf; show _ + 1 ≤ maxLen; have hm : maxLen = 9223372036854775807 := rfl; omega)
    | (have q := raw_len ⟨w, mem, inn, c⟩ inp k; have q2 := cfuel_b hf; show (rawTo ⟨w, mem, inn, c⟩ inp k).length ≤ 1000000000; omega)
    | exact row_fin (congrArg asc (raw_all hk (by with_reducible assumption)))
    | exact row_fin (congrArg asc (raw_fix (cov_stop (show (decide ((runM ⟨w, mem, inn, c⟩ inp k).code = 0) && decide ((runM ⟨w, mem, inn, c⟩ inp k).steps < 400)) = false by with_reducible assumption)) hk).symm)
    | exact (rfl : AV.num [63000] (AV.row 63000) = AV.row 0)
    | rfl
    | skip
end Vg
