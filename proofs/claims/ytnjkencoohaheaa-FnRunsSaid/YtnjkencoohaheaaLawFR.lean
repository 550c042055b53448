/- Runs in plain words: a run goes only where it can, and comes to a place again only through the head of a loop. No condition. -/
import Derived.Test.YtnjkencoohaheaaRuns
import Derived.Test.YtnjkencoohaheaaShelf
import Derived.Test.YtnjkencoohaheaaCov
import Derived.Test.YtnjkencoohaheaaVis
import Derived.Test.YtnjkencoohaheaaLInts
import Derived.Test.YtnjkencoohaheaaExi
import Derived.Test.YtnjkencoohaheaaGive
namespace Vg
open Go Go.Proofs
def nextP (p : V.Prog) (pc : Int) : List Int :=
  if progP p = true ∧ 0 ≤ pc ∧ pc < p.code.length then
    if (p.code.getD pc.toNat K.inss.dflt).op = 9 then [(p.code.getD pc.toNat K.inss.dflt).b]
    else if (p.code.getD pc.toNat K.inss.dflt).op = 10 ∨ (p.code.getD pc.toNat K.inss.dflt).op = 11 then asc [pc + 1, (p.code.getD pc.toNat K.inss.dflt).b]
    else if (p.code.getD pc.toNat K.inss.dflt).op = 12 ∨ (p.code.getD pc.toNat K.inss.dflt).op = 14 then []
    else [pc + 1]
  else []
def goB (p : V.Prog) (s : V.State) : Bool := decide (s.code = 0) && (decide (s.steps < 400) && decide (s.pc < p.code.length))
def trTo (p : V.Prog) (inp : List Int) : Nat → List Int
  | 0 => []
  | k + 1 => trTo p inp k ++ if goB p (runM p inp k) = true then [(runM p inp k).pc] else []
theorem go_of {p : V.Prog} {s : V.State} (h : goB p s = true) : s.code = 0 ∧ s.steps < 400 ∧ s.pc < p.code.length := by simpa [goB] using h
/-- a run that has stopped stays -/
theorem go_back {p : V.Prog} {inp : List Int} (hi : inputsP p inp = true) {k : Nat} (h : goB p (runM p inp (k + 1)) = true) : goB p (runM p inp k) = true := by
  obtain ⟨h1, h2, h3⟩ := go_of h
  have hm := run_ok hi k
  by_cases h0 : (runM p inp k).code = 0 ∧ (runM p inp k).steps < 400
  · by_cases hp : (runM p inp k).pc = (p.code.length : Int)
    · exfalso
      have e : runM p inp (k + 1) = { runM p inp k with code := 2 } := by
        show stepM p (runM p inp k) inp = _
        unfold stepM; rw [if_pos h0, if_pos hp]
      rw [e] at h1
      exact absurd (show (2 : Int) = 0 from h1) (by decide)
    · have := hm.pc.2
      simp only [goB, Bool.and_eq_true, decide_eq_true_eq]
      exact ⟨h0.1, h0.2, by omega⟩
  · have e : runM p inp (k + 1) = runM p inp k := step_0 h0
    rw [e] at h; exact h
theorem go_all {p : V.Prog} {inp : List Int} (hi : inputsP p inp = true) {i k : Nat} (hk : i ≤ k) (h : goB p (runM p inp k) = true) : goB p (runM p inp i) = true := by
  obtain ⟨d, rfl⟩ : ∃ d, k = i + d := ⟨k - i, by omega⟩
  clear hk
  induction d with
  | zero => exact h
  | succ d ih => exact ih (go_back hi h)
/-- the trace: the places of the first states -/
theorem tr_eq {p : V.Prog} {inp : List Int} (hi : inputsP p inp = true) : ∀ k, ∃ m, m ≤ k ∧ trTo p inp k = (List.range m).map (fun i => (runM p inp i).pc) ∧ (∀ i, i < m → goB p (runM p inp i) = true) ∧ (m < k → goB p (runM p inp m) = false)
  | 0 => ⟨0, Nat.le_refl _, rfl, fun i h => absurd h (Nat.not_lt_zero i), fun h => absurd h (Nat.lt_irrefl _)⟩
  | k + 1 => by
    obtain ⟨m, h1, h2, h3, h4⟩ := tr_eq hi k
    by_cases e : m = k
    · subst e
      cases hg : goB p (runM p inp m) with
      | true =>
        refine ⟨m + 1, Nat.le_refl _, ?_, fun i hi' => ?_, fun h => absurd h (Nat.lt_irrefl _)⟩
        · simp only [trTo, hg, if_true, h2, List.range_succ, List.map_append, List.map_cons, List.map_nil]
        · by_cases e : i = m
          · subst e; exact hg
          · exact h3 i (by omega)
      | false =>
        refine ⟨m, by omega, ?_, h3, fun _ => hg⟩
        simp only [trTo, hg, Bool.false_eq_true, if_false, List.append_nil, h2]
    · have hm := h4 (by omega)
      have hg : goB p (runM p inp k) = false := by
        cases hg : goB p (runM p inp k) with
        | false => rfl
        | true => have := go_all hi (show m ≤ k by omega) hg; rw [hm] at this; cases this
      refine ⟨m, by omega, ?_, h3, fun _ => hm⟩
      simp only [trTo, hg, Bool.false_eq_true, if_false, List.append_nil, h2]
/-- a step that goes on goes to a next place -/
theorem next_ok {p : V.Prog} {inp : List Int} (hi : inputsP p inp = true) {k : Nat} (h : goB p (runM p inp (k + 1)) = true) (hr : ¬ (p.code.getD (runM p inp k).pc.toNat K.inss.dflt).op = 12) : (runM p inp (k + 1)).pc ∈ nextP p (runM p inp k).pc := by
  have hg := go_back hi h
  obtain ⟨g1, g2, g3⟩ := go_of hg
  obtain ⟨n1, n2, n3⟩ := go_of h
  have hm := run_ok hi k
  have e : runM p inp (k + 1) = stepM p (runM p inp k) inp := rfl
  have hpc : ¬ (runM p inp k).pc = (p.code.length : Int) := by omega
  unfold nextP
  rw [if_pos ⟨inp_p hi, hm.pc.1, g3⟩]
  have hst : stepM p (runM p inp k) inp = if whyP p { runM p inp k with steps := (runM p inp k).steps + 1 } (p.code.getD (runM p inp k).pc.toNat K.inss.dflt) = 0 then perfP p { runM p inp k with steps := (runM p inp k).steps + 1 } (p.code.getD (runM p inp k).pc.toNat K.inss.dflt) inp
      else { runM p inp k with steps := (runM p inp k).steps + 1, code := whyP p { runM p inp k with steps := (runM p inp k).steps + 1 } (p.code.getD (runM p inp k).pc.toNat K.inss.dflt) } := by
    unfold stepM
    rw [if_pos (show (runM p inp k).code = 0 ∧ (runM p inp k).steps < 400 from ⟨g1, g2⟩), if_neg hpc]
  rw [e, hst] at n1 ⊢
  generalize hI : p.code.getD (runM p inp k).pc.toNat K.inss.dflt = I at n1 hr ⊢
  generalize runM p inp k = s at n1 g1 g3 ⊢
  by_cases hw : whyP p { s with steps := s.steps + 1 } I = 0
  · rw [if_pos hw] at n1 ⊢
    unfold perfP at n1 ⊢
    by_cases h9 : I.op = 9
    · simp only [h9, Int.reduceEq, reduceIte]
      exact List.mem_singleton.2 rfl
    by_cases h10 : I.op = 10
    · simp only [h10, Int.reduceEq, reduceIte, true_or, asc_mem]
      split <;> simp
    by_cases h11 : I.op = 11
    · simp only [h11, Int.reduceEq, reduceIte, or_true, asc_mem]
      simp
    by_cases h14 : I.op = 14
    · exfalso
      simp only [h14, Int.reduceEq, reduceIte] at n1
    simp only [h9, h10, h11, hr, h14, or_self, if_false]
    repeat' split
    all_goals exact List.mem_singleton.2 rfl
  · rw [if_neg hw] at n1
    exact absurd n1 hw
/-- what can be reached: the beginning, and with each place the next ones -/
structure ReachI (p : V.Prog) (R : List Int) : Prop where
  zero : (0 : Int) ∈ R
  next : ∀ pc ∈ R, ∀ n ∈ nextP p pc, n ∈ R
structure HeadsI (p : V.Prog) (H : List Int) : Prop where
  back : ∃ R, ReachI p R ∧ ∀ pc ∈ R, ∀ n ∈ nextP p pc, n ≤ pc → n ∈ H
theorem reach_run {p : V.Prog} {inp R : List Int} (hi : inputsP p inp = true) (hR : ReachI p R) : ∀ k, (runM p inp k).pc ∈ R ∧ ∀ x ∈ (runM p inp k).stack, x ∈ R
  | 0 => ⟨hR.zero, fun x hx => by simp [runM, new0] at hx⟩
  | k + 1 => by
    obtain ⟨h1, h2⟩ := reach_run hi hR k
    have hm := run_ok hi k
    show (stepM p (runM p inp k) inp).pc ∈ R ∧ ∀ x ∈ (stepM p (runM p inp k) inp).stack, x ∈ R
    unfold stepM
    split
    · rename_i h0
      split
      · exact ⟨h1, h2⟩
      · rename_i hpc
        have hn : ∀ n ∈ nextP p (runM p inp k).pc, n ∈ R := hR.next _ h1
        unfold nextP at hn
        rw [if_pos ⟨inp_p hi, hm.pc.1, by have := hm.pc.2; omega⟩] at hn
        generalize hI : p.code.getD (runM p inp k).pc.toNat K.inss.dflt = I at hn ⊢
        generalize runM p inp k = s at h1 h2 hn ⊢
        split
        · rename_i hw
          unfold perfP
          by_cases h9 : I.op = 9
          · simp only [h9, Int.reduceEq, reduceIte] at hn ⊢
            exact ⟨hn _ (List.mem_singleton.2 rfl), h2⟩
          by_cases h10 : I.op = 10
          · simp only [h10, Int.reduceEq, reduceIte, true_or, asc_mem] at hn ⊢
            refine ⟨?_, h2⟩
            split
            · exact hn _ (by simp)
            · exact hn _ (by simp)
          by_cases h11 : I.op = 11
          · simp only [h11, Int.reduceEq, reduceIte, or_true, asc_mem] at hn ⊢
            refine ⟨hn _ (by simp), fun x hx => ?_⟩
            rw [List.mem_append, List.mem_singleton] at hx
            rcases hx with hx | hx
            · exact h2 x hx
            · subst hx; exact hn _ (by simp)
          by_cases h12 : I.op = 12
          · have hs : ¬ (s.stack.length : Int) = 0 := by
              intro e
              simp only [whyP, h12, Int.reduceEq, reduceIte, e] at hw
            simp only [h12, Int.reduceEq, reduceIte]
            refine ⟨?_, fun x hx => h2 x (List.mem_of_mem_take hx)⟩
            rw [List.getD_eq_getElem?_getD, List.getElem?_eq_getElem (show s.stack.length - 1 < s.stack.length by omega)]
            exact h2 _ (List.getElem_mem _)
          by_cases h14 : I.op = 14
          · simp only [h14, Int.reduceEq, reduceIte]
            exact ⟨h1, h2⟩
          simp only [h9, h10, h11, h12, h14, or_self, if_false] at hn ⊢
          have hn1 : s.pc + 1 ∈ R := hn _ (List.mem_singleton.2 rfl)
          repeat' split
          all_goals exact ⟨hn1, h2⟩
        · exact ⟨h1, h2⟩
    · exact ⟨h1, h2⟩
/-- without a return between, a place is met again only through a head -/
theorem cycle_head {p : V.Prog} {inp H : List Int} (hi : inputsP p inp = true) (hH : HeadsI p H) {i j : Nat} (hij : j < i) (hg : goB p (runM p inp i) = true) (hr : ∀ t, t ≤ i → ¬ (p.code.getD (runM p inp t).pc.toNat K.inss.dflt).op = 12) (he : (runM p inp j).pc = (runM p inp i).pc) :
    ∃ t, j ≤ t ∧ t ≤ i ∧ (runM p inp t).pc ∈ H := by
  obtain ⟨R, hR, hb⟩ := hH.back
  refine Classical.byContradiction fun hno => ?_
  have hinc : ∀ d, j + d ≤ i → (runM p inp j).pc + d ≤ (runM p inp (j + d)).pc := by
    intro d
    induction d with
    | zero => intro _; simp
    | succ d ih =>
      intro hd
      have h1 := ih (by omega)
      have h2 := next_ok hi (k := j + d) (go_all hi (show j + d + 1 ≤ i by omega) hg) (hr (j + d) (by omega))
      have h3 : ¬ (runM p inp (j + d + 1)).pc ≤ (runM p inp (j + d)).pc := fun hle => hno ⟨j + d + 1, by omega, by omega, hb _ (reach_run hi hR (j + d)).1 _ h2 hle⟩
      show (runM p inp j).pc + ((d + 1 : Nat) : Int) ≤ (runM p inp (j + d + 1)).pc
      omega
  have := hinc (i - j) (by omega)
  rw [show j + (i - j) = i from by omega] at this
  omega
end Vg

namespace Vg
open Go Go.Proofs
theorem perf_steps {p : V.Prog} {s : V.State} {i : V.Ins} {inp : List Int} : (perfP p s i inp).steps = s.steps := by
  unfold perfP
  simp only [apply_ite V.State.steps, ite_self]
theorem stepT_go {p : V.Prog} {s : V.State} {inp : List Int} (h : goB p s = true) : (stepM p s inp).steps = s.steps + 1 := by
  obtain ⟨g1, g2, g3⟩ := go_of h
  unfold stepM
  rw [if_pos ⟨g1, g2⟩, if_neg (by omega)]
  split
  · rw [perf_steps]
  · rfl
theorem stepT_no {p : V.Prog} {s : V.State} {inp : List Int} (hm : MOk p s) (h : goB p s = false) : (stepM p s inp).steps = s.steps := by
  unfold stepM
  split
  · rename_i h0
    split
    · rfl
    · exfalso
      have := hm.pc.2
      have hg : goB p s = true := by
        simp only [goB, Bool.and_eq_true, decide_eq_true_eq]
        exact ⟨h0.1, h0.2, by omega⟩
      rw [hg] at h; cases h
  · rfl
theorem tr_steps {p : V.Prog} {inp : List Int} (hi : inputsP p inp = true) : ∀ k, ((trTo p inp k).length : Int) = (runM p inp k).steps
  | 0 => rfl
  | k + 1 => by
    have ih := tr_steps hi k
    show ((trTo p inp k ++ if goB p (runM p inp k) = true then [(runM p inp k).pc] else []).length : Int) = (stepM p (runM p inp k) inp).steps
    cases hg : goB p (runM p inp k) with
    | true => rw [stepT_go hg, List.length_append]; simp; omega
    | false => rw [stepT_no (run_ok hi k) hg]; simpa using ih
theorem tr_at {p : V.Prog} {inp : List Int} (hi : inputsP p inp = true) {k i : Nat} (h : i < (trTo p inp k).length) : (trTo p inp k).getD i K.ints.dflt = (runM p inp i).pc ∧ goB p (runM p inp i) = true := by
  obtain ⟨m, h1, h2, h3, h4⟩ := tr_eq hi k
  rw [h2] at h ⊢
  have hm : i < m := by simpa using h
  refine ⟨?_, h3 i hm⟩
  rw [List.getD_eq_getElem?_getD, List.getElem?_map, List.getElem?_range hm]; rfl
section
variable {p : V.Prog} {inp R H : List Int} {k i j : Nat}
theorem tr_lo (hi : inputsP p inp = true) (h : (i : Int) < (trTo p inp k).length) : 0 ≤ (trTo p inp k).getD (i : Int).toNat K.ints.dflt ∧ (trTo p inp k).getD (i : Int).toNat K.ints.dflt < p.code.length := by
  rw [Int.toNat_natCast]
  obtain ⟨e, hg⟩ := tr_at hi (show i < (trTo p inp k).length by omega)
  rw [e]
  exact ⟨(run_ok hi i).pc.1, (go_of hg).2.2⟩
theorem tr_reach (hi : inputsP p inp = true) (hR : ReachI p R) (h : (i : Int) < (trTo p inp k).length) : (trTo p inp k).getD (i : Int).toNat K.ints.dflt ∈ R := by
  rw [Int.toNat_natCast]
  obtain ⟨e, hg⟩ := tr_at hi (show i < (trTo p inp k).length by omega)
  rw [e]; exact (reach_run hi hR i).1
theorem tr_next (hi : inputsP p inp = true) (h : ((i + 1 : Nat) : Int) < (trTo p inp k).length) (hr : ¬ (p.code.getD ((trTo p inp k).getD i K.ints.dflt).toNat K.inss.dflt).op = 12) : (trTo p inp k).getD (i + 1) K.ints.dflt ∈ nextP p ((trTo p inp k).getD i K.ints.dflt) := by
  obtain ⟨e, hg⟩ := tr_at hi (show i + 1 < (trTo p inp k).length by omega)
  obtain ⟨e', hg'⟩ := tr_at hi (show i < (trTo p inp k).length by omega)
  rw [e'] at hr ⊢; rw [e]
  exact next_ok hi hg hr
def retTo (p : V.Prog) (T : List Int) (i : Nat) : Bool := (T.take i).any fun pc => decide ((p.code.getD pc.toNat K.inss.dflt).op = 12)
theorem ret_no {T : List Int} (h : retTo p T i = false) {t : Nat} (ht : t < i) (hl : t < T.length) : ¬ (p.code.getD (T.getD t K.ints.dflt).toNat K.inss.dflt).op = 12 := by
  intro e
  have : retTo p T i = true := by
    unfold retTo
    rw [List.any_eq_true]
    refine ⟨T.getD t K.ints.dflt, ?_, decide_eq_true e⟩
    rw [List.getD_eq_getElem?_getD, List.getElem?_eq_getElem hl, Option.getD_some]
    rw [List.mem_take_iff_getElem]
    exact ⟨t, by omega, rfl⟩
  rw [this] at h; cases h
theorem ret_step {T : List Int} (h : (i : Int) < T.length) : retTo p T (i + 1) = (retTo p T i || decide ((p.code.getD (T.getD (i : Int).toNat K.ints.dflt).toNat K.inss.dflt).op = 12)) := by
  have h' : i < T.length := by omega
  unfold retTo
  have e : T.getD (i : Int).toNat K.ints.dflt = T[i] := by rw [Int.toNat_natCast, List.getD_eq_getElem?_getD, List.getElem?_eq_getElem h', Option.getD_some]
  rw [List.take_succ_eq_append_getElem h', List.any_append, e]
  simp
theorem tr_found (hi : inputsP p inp = true) (hH : HeadsI p H) (hij : j < i) (h : (i : Int) < (trTo p inp k).length) (hr : retTo p (trTo p inp k) (i + 1) = false)
    (he : (trTo p inp k).getD j K.ints.dflt = (trTo p inp k).getD i K.ints.dflt) : (((trTo p inp k).take (i + 1)).drop j).any (fun x => decide (x ∈ H)) = true := by
  have hl : i < (trTo p inp k).length := by omega
  obtain ⟨e, hg⟩ := tr_at hi hl
  obtain ⟨e', hg'⟩ := tr_at hi (show j < (trTo p inp k).length by omega)
  obtain ⟨t, h1, h2, h3⟩ := cycle_head hi hH hij hg (fun t ht => by
    have := ret_no hr (show t < i + 1 by omega) (show t < (trTo p inp k).length by omega)
    rwa [(tr_at hi (show t < (trTo p inp k).length by omega)).1] at this) (by rw [← e, ← e']; exact he)
  rw [List.any_eq_true]
  refine ⟨(runM p inp t).pc, ?_, decide_eq_true h3⟩
  rw [← (tr_at hi (show t < (trTo p inp k).length by omega)).1, List.getD_eq_getElem?_getD, List.getElem?_eq_getElem (show t < (trTo p inp k).length by omega), Option.getD_some]
  rw [List.mem_iff_getElem]
  refine ⟨t - j, by simp; omega, ?_⟩
  rw [List.getElem_drop, List.getElem_take]
  congr 1; omega
end
end Vg

namespace Vg
open Go Go.Proofs
theorem has_y {l : List Int} {x : Int} {k : Nat} (h : l.getD (k : Int).toNat K.ints.dflt = x) (hk : (k : Int) < l.length) : Dat.bool true = Dat.bool (decide (x ∈ l)) := by
  have hk' : k < l.length := by omega
  rw [Int.toNat_natCast, List.getD_eq_getElem?_getD, List.getElem?_eq_getElem hk', Option.getD_some] at h
  rw [decide_eq_true (h ▸ List.getElem_mem hk')]
theorem has_n {l : List Int} {x : Int} {k : Nat} (h0 : ¬ x ∈ l.take k) (h : ¬ l.getD (k : Int).toNat K.ints.dflt = x) (hk : (k : Int) < l.length) : ¬ x ∈ l.take (k + 1) := by
  have hk' : k < l.length := by omega
  rw [Int.toNat_natCast, List.getD_eq_getElem?_getD, List.getElem?_eq_getElem hk', Option.getD_some] at h
  rw [List.take_succ_eq_append_getElem hk', List.mem_append, List.mem_singleton]
  rintro (h1 | h1)
  · exact h0 h1
  · exact h h1.symm
theorem has_end {l : List Int} {x : Int} {k : Nat} (h0 : ¬ x ∈ l.take k) (hk : ¬ (k : Int) < l.length) : Dat.bool false = Dat.bool (decide (x ∈ l)) := by
  rw [List.take_of_length_le (by omega)] at h0
  rw [decide_eq_false h0]
structure HasI (l : List Int) (x : Int) (k : Nat) : Prop where
  le : k ≤ l.length
  no : ¬ x ∈ l.take k
theorem has_0 (l : List Int) (x : Int) : HasI l x 0 := ⟨Nat.zero_le _, by simp⟩
theorem has_s {l : List Int} {x : Int} {k : Nat} (h0 : HasI l x k) (h : ¬ l.getD (k : Int).toNat K.ints.dflt = x) (hk : (k : Int) < l.length) : HasI l x (k + 1) := ⟨by omega, has_n h0.no h hk⟩
set_option maxHeartbeats 2000000 in
set_option maxRecDepth 100000 in
theorem l_has (l : List Int) (x : Int) : CallsV Try.prog 34 [.dat (.seq .ints l), .dat (.i x)] (.dat (.bool (decide (x ∈ l)))) := by
  refine CallsV.of_awp tauOk mixOk Try.func34 rfl rfl rfl ?_
  conv => whnf
  repeat' (first
    | ((with_reducible refine Alt.l ?_); conv => whnf)
    | ((with_reducible refine fun (K1 : AX → AState → Prop) hK => ?_); conv => whnf)
    | ((with_reducible show K1 _ _); subst hK; conv => whnf)
    | (with_reducible exact rfl)
    | ((with_reducible refine sp_T ?_); conv => whnf)
    | ((with_reducible refine sp_F ?_); conv => whnf)
    | ((with_reducible refine sp_T' ?_); conv => whnf)
    | ((with_reducible refine sp_F' ?_); conv => whnf)
    | ((with_reducible refine sp_dF ?_ ?_); decide; conv => whnf)
    | ((with_reducible refine sp_dT ?_ ?_); decide; conv => whnf)
    | ((with_reducible refine sp_d (fun h => ?_) (fun h => ?_)) <;> first | contradiction | (subst h; conv => whnf) | (conv => whnf))
    | ((with_reducible refine sp_d' (fun h => ?_) (fun h => ?_)) <;> first | contradiction | (subst h; conv => whnf) | (conv => whnf))
    | ((with_reducible refine sp_eF ?_ ?_); decide; conv => whnf)
    | ((with_reducible refine sp_eT ?_); conv => whnf)
    | ((with_reducible refine sp_e (fun h => ?_) (fun h => ?_)) <;> first | contradiction | (subst h; conv => whnf) | (conv => whnf))
    | ((with_reducible refine sp_e' (fun h => ?_) (fun h => ?_)) <;> first | contradiction | (subst h; conv => whnf) | (conv => whnf))
    | ((with_reducible refine sp_n (fun h => ?_) (fun h => ?_)) <;> first | contradiction | (subst h; conv => whnf) | (conv => whnf))
    | ((with_reducible refine sp_n' (fun h => ?_) (fun h => ?_)) <;> first | contradiction | (subst h; conv => whnf) | (conv => whnf))
    | ((with_reducible refine sp_nb (fun h => ?_) (fun h => ?_)) <;> first | (exact Bool.noConfusion (Eq.trans (Eq.symm h) (show _ = true by with_reducible assumption))) | (exact Bool.noConfusion (Eq.trans (Eq.symm (show _ = false by with_reducible assumption)) h)) | (conv => whnf))
    | ((with_reducible refine sp_nb' (fun h => ?_) (fun h => ?_)) <;> first | (exact Bool.noConfusion (Eq.trans (Eq.symm h) (show _ = true by with_reducible assumption))) | (exact Bool.noConfusion (Eq.trans (Eq.symm (show _ = false by with_reducible assumption)) h)) | (conv => whnf))
    | ((with_reducible refine sp_b (fun h => ?_) (fun h => ?_)) <;> first | (exact Bool.noConfusion (Eq.trans (Eq.symm h) (show _ = true by with_reducible assumption))) | (exact Bool.noConfusion (Eq.trans (Eq.symm (show _ = false by with_reducible assumption)) h)) | (conv => whnf))
    | ((with_reducible refine sp_b' (fun h => ?_) (fun h => ?_)) <;> first | (exact Bool.noConfusion (Eq.trans (Eq.symm h) (show _ = true by with_reducible assumption))) | (exact Bool.noConfusion (Eq.trans (Eq.symm (show _ = false by with_reducible assumption)) h)) | (conv => whnf))
    | (refine ⟨(rfl : nodupB _ = true), rfl, ?_⟩; conv => whnf)
    | (with_reducible refine bnd2 ?_ ?_)
    | (with_reducible refine bnd2' ?_ ?_)
    | (with_reducible refine bndN ?_ ?_)
    | ((with_reducible refine and_of ?_ ?_); conv => whnf)
    | (refine Exists.intro ({k : Nat // HasI l x k}) (Exists.intro (fun ⟨k, hk⟩ => mkS Try.f34.ntmps [(1, .dat (.i x)), (7, .dat (.seq .ints l)), (8, .dat (.i l.length)), (9, .dat (.i k))] []) (Exists.intro (fun ⟨k, hk⟩ => l.length - k) (Exists.intro ⟨0, has_0 l x⟩ (And.intro (SubP.sub (σ := []) ⟨⟨rfl, rfl, rfl⟩, ⟨(wk_dat ?_), (wk_dat ?_), (wk_dat ?_), (wk_dat ?_), trivial⟩, trivial⟩) (fun ⟨k, hk⟩ => ?_))))); rotate_right; conv => whnf)
    | (refine Exists.intro (⟨k + 1, ?_⟩ : {k : Nat // HasI l x k}) (And.intro ?_ (SubP.sub (σ := []) ⟨⟨rfl, rfl, rfl⟩, ⟨(wk_dat ?_), (wk_dat ?_), (wk_dat ?_), (wk_dat ?_), trivial⟩, trivial⟩)))
    | ((with_reducible show awpOps _ _ _ _ _ _); conv => whnf)
    | (intro h; conv => whnf))
  all_goals (repeat (clear hK; clear K1))
  all_goals first
    | (with_reducible assumption)
    | (with_reducible rfl)
    | exact has_y (by with_reducible assumption) (by with_reducible assumption)
    | exact (has_y (by with_reducible assumption) (by with_reducible assumption)).symm
    | exact has_y rfl (by with_reducible assumption)
    | exact (has_y rfl (by with_reducible assumption)).symm
    | exact has_s hk (by with_reducible assumption) (by with_reducible assumption)
    | exact has_end hk.no (by with_reducible assumption)
    | exact (has_end hk.no (by with_reducible assumption)).symm
    | exact congrArg (Dat.int .i64) (wrap_succ (by with_reducible assumption) (by with_reducible assumption)).symm
    | exact (rfl : Dat.i ((0 : Nat) : Int) = Dat.int .i64 0)
    | omega
    | (dsimp only; omega)
    | skip
theorem next_no {p : V.Prog} {pc : Int} (h : ¬ (progP p = true ∧ 0 ≤ pc ∧ pc < p.code.length)) : nextP p pc = [] := by unfold nextP; rw [if_neg h]
section
variable {p : V.Prog} {pc : Int}
theorem next_9 (hp : progP p = true) (h0 : ¬ pc < 0) (h1 : ¬ pc ≥ (p.code.length : Int)) (h : (p.code.getD pc.toNat K.inss.dflt).op = 9) : nextP p pc = [(p.code.getD pc.toNat K.inss.dflt).b] := by
  unfold nextP; rw [if_pos ⟨hp, by omega, by omega⟩, if_pos h]
theorem next_10 (hp : progP p = true) (h0 : ¬ pc < 0) (h1 : ¬ pc ≥ (p.code.length : Int)) (h : (p.code.getD pc.toNat K.inss.dflt).op = 10 ∨ (p.code.getD pc.toNat K.inss.dflt).op = 11) : nextP p pc = asc [pc + 1, (p.code.getD pc.toNat K.inss.dflt).b] := by
  unfold nextP; rw [if_pos ⟨hp, by omega, by omega⟩, if_neg (by omega), if_pos h]
theorem next_12 (hp : progP p = true) (h0 : ¬ pc < 0) (h1 : ¬ pc ≥ (p.code.length : Int)) (h : (p.code.getD pc.toNat K.inss.dflt).op = 12 ∨ (p.code.getD pc.toNat K.inss.dflt).op = 14) : nextP p pc = [] := by
  unfold nextP; rw [if_pos ⟨hp, by omega, by omega⟩, if_neg (by omega), if_neg (by omega), if_pos h]
theorem next_1 (hp : progP p = true) (h0 : ¬ pc < 0) (h1 : ¬ pc ≥ (p.code.length : Int)) (h9 : ¬ (p.code.getD pc.toNat K.inss.dflt).op = 9) (h10 : ¬ (p.code.getD pc.toNat K.inss.dflt).op = 10) (h11 : ¬ (p.code.getD pc.toNat K.inss.dflt).op = 11) (h12 : ¬ (p.code.getD pc.toNat K.inss.dflt).op = 12) (h14 : ¬ (p.code.getD pc.toNat K.inss.dflt).op = 14) : nextP p pc = [pc + 1] := by
  unfold nextP; rw [if_pos ⟨hp, by omega, by omega⟩, if_neg h9, if_neg (by omega), if_neg (by omega)]
theorem nx_w (hp : progP p = true) (h0 : ¬ pc < 0) (h1 : ¬ pc ≥ (p.code.length : Int)) : IntKind.i64.wrap (pc + 1) = pc + 1 := by
  have := prog_w hp
  exact wrap_id (by omega) (by omega)
theorem nx_9 (hp : progP p = true) (h0 : ¬ pc < 0) (h1 : ¬ pc ≥ (p.code.length : Int)) (h : (p.code.getD pc.toNat K.inss.dflt).op = 9) : Dat.seq .ints (nextP p pc) = Dat.seq .ints [(p.code.getD pc.toNat K.inss.dflt).b] :=
  congrArg (Dat.seq .ints) (next_9 hp h0 h1 h)
theorem nx_10 (hp : progP p = true) (h0 : ¬ pc < 0) (h1 : ¬ pc ≥ (p.code.length : Int)) (h : (p.code.getD pc.toNat K.inss.dflt).op = 10) : Dat.seq .ints (nextP p pc) = Dat.seq .ints (asc [IntKind.i64.wrap (pc + 1), (p.code.getD pc.toNat K.inss.dflt).b]) := by
  rw [nx_w hp h0 h1]; exact congrArg (Dat.seq .ints) (next_10 hp h0 h1 (.inl h))
theorem nx_11 (hp : progP p = true) (h0 : ¬ pc < 0) (h1 : ¬ pc ≥ (p.code.length : Int)) (h : (p.code.getD pc.toNat K.inss.dflt).op = 11) : Dat.seq .ints (nextP p pc) = Dat.seq .ints (asc [IntKind.i64.wrap (pc + 1), (p.code.getD pc.toNat K.inss.dflt).b]) := by
  rw [nx_w hp h0 h1]; exact congrArg (Dat.seq .ints) (next_10 hp h0 h1 (.inr h))
theorem nx_1 (hp : progP p = true) (h0 : ¬ pc < 0) (h1 : ¬ pc ≥ (p.code.length : Int)) (h9 : ¬ (p.code.getD pc.toNat K.inss.dflt).op = 9) (h10 : ¬ (p.code.getD pc.toNat K.inss.dflt).op = 10) (h11 : ¬ (p.code.getD pc.toNat K.inss.dflt).op = 11) (h12 : ¬ (p.code.getD pc.toNat K.inss.dflt).op = 12) (h14 : ¬ (p.code.getD pc.toNat K.inss.dflt).op = 14) : Dat.seq .ints (nextP p pc) = Dat.seq .ints [IntKind.i64.wrap (pc + 1)] := by
  rw [nx_w hp h0 h1]; exact congrArg (Dat.seq .ints) (next_1 hp h0 h1 h9 h10 h11 h12 h14)
theorem nx_p (h : progP p = false) : (nextP p pc).length = 0 := by rw [next_no (fun x => by rw [x.1] at h; cases h)]; rfl
theorem nx_lo (h : pc < 0) : (nextP p pc).length = 0 := by rw [next_no (fun x => by omega)]; rfl
theorem nx_hi (h : pc ≥ (p.code.length : Int)) : (nextP p pc).length = 0 := by rw [next_no (fun x => by omega)]; rfl
theorem nx_12 (hp : progP p = true) (h0 : ¬ pc < 0) (h1 : ¬ pc ≥ (p.code.length : Int)) (h : (p.code.getD pc.toNat K.inss.dflt).op = 12) : (nextP p pc).length = 0 := by rw [next_12 hp h0 h1 (.inl h)]; rfl
theorem nx_14 (hp : progP p = true) (h0 : ¬ pc < 0) (h1 : ¬ pc ≥ (p.code.length : Int)) (h : (p.code.getD pc.toNat K.inss.dflt).op = 14) : (nextP p pc).length = 0 := by rw [next_12 hp h0 h1 (.inr h)]; rfl
theorem next_rng {n : Int} (h : n ∈ nextP p pc) : 0 ≤ n ∧ n ≤ p.code.length := by
  unfold nextP at h
  split at h
  · rename_i hc
    obtain ⟨hp, h0, h1⟩ := hc
    have hi := prog_ins hp (k := pc.toNat) (by omega)
    generalize p.code.getD pc.toNat K.inss.dflt = I at h hi
    obtain ⟨op, a, b, d⟩ := I
    simp only at h
    split at h
    · rename_i ho
      subst ho
      rw [List.mem_singleton] at h; subst h
      simp [insP, inP] at hi; omega
    · split at h
      · rename_i ho
        rw [asc_mem] at h
        have hb : 0 ≤ b ∧ b ≤ p.code.length := by
          rcases ho with rfl | rfl <;> simp [insP, inP] at hi <;> omega
        simp at h
        rcases h with rfl | rfl <;> omega
      · split at h
        · simp at h
        · rw [List.mem_singleton] at h; subst h; omega
  · simp at h
theorem next_len : (nextP p pc).length ≤ 2 := by
  unfold nextP
  repeat' split
  all_goals first | (simp; done) | (refine Nat.le_trans (asc_len _) ?_; simp)
end
set_option maxHeartbeats 4000000 in
set_option maxRecDepth 100000 in
theorem i_NextOf (w mem inn : Int) (c : List V.Ins) (pc : Int) : CallsV Try.prog 35 [.agg [.dat (.i w), .dat (.i mem), .dat (.i inn), .dat (.seq .inss c)], .dat (.i pc)] (.dat (.seq .ints (nextP ⟨w, mem, inn, c⟩ pc))) := by
  refine CallsV.of_awp tauOk mixOk Try.func35 rfl rfl rfl ?_
  conv => whnf
  repeat' (first
    | ((with_reducible refine Alt.l ?_); conv => whnf)
    | ((with_reducible refine fun (K1 : AX → AState → Prop) hK => ?_); conv => whnf)
    | ((with_reducible show K1 _ _); subst hK; conv => whnf)
    | (with_reducible exact rfl)
    | ((with_reducible refine sp_T ?_); conv => whnf)
    | ((with_reducible refine sp_F ?_); conv => whnf)
    | ((with_reducible refine sp_T' ?_); conv => whnf)
    | ((with_reducible refine sp_F' ?_); conv => whnf)
    | ((with_reducible refine sp_dF ?_ ?_); decide; conv => whnf)
    | ((with_reducible refine sp_dT ?_ ?_); decide; conv => whnf)
    | ((with_reducible refine sp_d (fun h => ?_) (fun h => ?_)) <;> first | contradiction | (subst h; conv => whnf) | (conv => whnf))
    | ((with_reducible refine sp_d' (fun h => ?_) (fun h => ?_)) <;> first | contradiction | (subst h; conv => whnf) | (conv => whnf))
    | ((with_reducible refine sp_eF ?_ ?_); decide; conv => whnf)
    | ((with_reducible refine sp_eT ?_); conv => whnf)
    | ((with_reducible refine sp_e (fun h => ?_) (fun h => ?_)) <;> first | contradiction | (subst h; conv => whnf) | (conv => whnf))
    | ((with_reducible refine sp_e' (fun h => ?_) (fun h => ?_)) <;> first | contradiction | (subst h; conv => whnf) | (conv => whnf))
    | ((with_reducible refine sp_n (fun h => ?_) (fun h => ?_)) <;> first | contradiction | (subst h; conv => whnf) | (conv => whnf))
    | ((with_reducible refine sp_n' (fun h => ?_) (fun h => ?_)) <;> first | contradiction | (subst h; conv => whnf) | (conv => whnf))
    | ((with_reducible refine sp_nb (fun h => ?_) (fun h => ?_)) <;> first | (exact Bool.noConfusion (Eq.trans (Eq.symm h) (show _ = true by with_reducible assumption))) | (exact Bool.noConfusion (Eq.trans (Eq.symm (show _ = false by with_reducible assumption)) h)) | (conv => whnf))
    | ((with_reducible refine sp_nb' (fun h => ?_) (fun h => ?_)) <;> first | (exact Bool.noConfusion (Eq.trans (Eq.symm h) (show _ = true by with_reducible assumption))) | (exact Bool.noConfusion (Eq.trans (Eq.symm (show _ = false by with_reducible assumption)) h)) | (conv => whnf))
    | ((with_reducible refine sp_b (fun h => ?_) (fun h => ?_)) <;> first | (exact Bool.noConfusion (Eq.trans (Eq.symm h) (show _ = true by with_reducible assumption))) | (exact Bool.noConfusion (Eq.trans (Eq.symm (show _ = false by with_reducible assumption)) h)) | (conv => whnf))
    | ((with_reducible refine sp_b' (fun h => ?_) (fun h => ?_)) <;> first | (exact Bool.noConfusion (Eq.trans (Eq.symm h) (show _ = true by with_reducible assumption))) | (exact Bool.noConfusion (Eq.trans (Eq.symm (show _ = false by with_reducible assumption)) h)) | (conv => whnf))
    | (refine ⟨(rfl : nodupB _ = true), rfl, ?_⟩; conv => whnf)
    | (with_reducible refine bnd2 ?_ ?_)
    | (with_reducible refine bnd2' ?_ ?_)
    | (with_reducible refine bndN ?_ ?_)
    | ((with_reducible refine and_of ?_ ?_); conv => whnf)
    | ((with_reducible refine pcI (g := 57) ?_); refine ⟨_, i_ProgramOk .., rfl, ?_⟩; rotate_right; conv => whnf)
    | ((with_reducible show Exists _); refine Exists.intro _ (And.intro (i_ProgramOk ..) (And.intro rfl ?_)); rotate_right; conv => whnf)
    | ((with_reducible refine gcI (g := 90) ?_); refine ⟨_, _, i_ascending (hl := ?_) .., fun res B hRB => ?_⟩; rotate_right; obtain ⟨rfl, rfl⟩ := hRB; conv => whnf)
    | ((with_reducible show awpOps _ _ _ _ _ _); conv => whnf)
    | (intro h; conv => whnf))
  all_goals (repeat (clear hK; clear K1))
  all_goals first
    | (with_reducible assumption)
    | exact nx_9 (p := ⟨w, mem, inn, c⟩) (by with_reducible assumption) (by with_reducible assumption) (by with_reducible assumption) (by with_reducible assumption)
    | exact nx_10 (p := ⟨w, mem, inn, c⟩) (by with_reducible assumption) (by with_reducible assumption) (by with_reducible assumption) (by with_reducible assumption)
    | exact nx_11 (p := ⟨w, mem, inn, c⟩) (by with_reducible assumption) (by with_reducible assumption) (by with_reducible assumption) (by with_reducible assumption)
    | exact nx_1 (p := ⟨w, mem, inn, c⟩) (by with_reducible assumption) (by with_reducible assumption) (by with_reducible assumption) (by with_reducible assumption) (by with_reducible assumption) (by with_reducible assumption) (by with_reducible assumption) (by with_reducible assumption)
    | exact nx_p (p := ⟨w, mem, inn, c⟩) (by with_reducible assumption)
    | exact nx_lo (p := ⟨w, mem, inn, c⟩) (by with_reducible assumption)
    | exact nx_hi (p := ⟨w, mem, inn, c⟩) (by with_reducible assumption)
    | exact nx_12 (p := ⟨w, mem, inn, c⟩) (by with_reducible assumption) (by with_reducible assumption) (by with_reducible assumption) (by with_reducible assumption)
    | exact nx_14 (p := ⟨w, mem, inn, c⟩) (by with_reducible assumption) (by with_reducible assumption) (by with_reducible assumption) (by with_reducible assumption)
    | omega
    | (simp only [List.length_cons, List.length_nil]; omega)
    | skip
structure ReachL (p : V.Prog) (R : List Int) : Prop where
  ok : ReachI p R
  len : R.length ≤ 41
structure ReachO (p : V.Prog) (o : List Int) (s : List Bool) (k : Nat) : Prop where
  hs : s.length = p.code.length + 1
  cnt : o.length = s.count true
  kle : k ≤ o.length
  zero : (0 : Int) ∈ o
  rng : ∀ x ∈ o, 0 ≤ x ∧ x ≤ p.code.length
  inn : ∀ n : Nat, s.getD n false = true → (n : Int) ∈ o
  don : ∀ i < k, ∀ n ∈ nextP p (o.getD i K.ints.dflt), n ∈ o
structure ReachN (p : V.Prog) (k : Nat) (x : Int) (o : List Int) (s : List Bool) (j : Nat) : Prop where
  base : ReachO p o s k
  at1 : k < o.length
  at2 : o.getD (k : Int).toNat K.ints.dflt = x
  jle : j ≤ (nextP p x).length
  cur : ∀ n ∈ (nextP p x).take j, n ∈ o
section
variable {p : V.Prog} {o : List Int} {s : List Bool} {k j : Nat} {x : Int}
theorem ReachO.le (h : ReachO p o s k) (hp : progP p = true) : o.length ≤ p.code.length + 1 ∧ o.length ≤ 41 := by
  have := prog_w hp
  have h2 : s.count true ≤ s.length := List.count_le_length
  have := h.cnt; have := h.hs
  omega
theorem reach_0 (_hp : progP p = true) : ReachO p [0] ((List.replicate (p.code.length + 1) false).set 0 true) 0 := by
  refine ⟨by simp, ?_, Nat.zero_le _, by simp, fun x hx => ?_, fun n hn => ?_, fun i hi => absurd hi (Nat.not_lt_zero _)⟩
  · rw [List.replicate_succ, List.set_cons_zero, List.count_cons_self, List.count_replicate]; simp
  · rw [List.mem_singleton] at hx; subst hx; omega
  · rw [List.replicate_succ, List.set_cons_zero] at hn
    cases n with
    | zero => simp
    | succ n =>
      exfalso
      rw [List.getD_cons_succ, List.getD_eq_getElem?_getD, List.getElem?_replicate] at hn
      split at hn <;> simp at hn
theorem len_w (hp : progP p = true) : IntKind.i64.wrap ((p.code.length : Int) + 1) = (p.code.length : Int) + 1 := by
  have := prog_w hp
  exact wrap_id (by omega) (by omega)
theorem reach_0w (hp : progP p = true) : ReachO p [0] ((List.replicate (IntKind.i64.wrap ((p.code.length : Int) + 1)).toNat false).set (Int.toNat 0) true) 0 := by
  rw [len_w hp]; exact reach_0 hp
theorem reach_in (h : ReachO p o s k) (hk : (k : Int) < o.length) : ReachN p k (o.getD (k : Int).toNat K.ints.dflt) o s 0 :=
  ⟨h, by omega, rfl, Nat.zero_le _, fun n hn => by simp at hn⟩
theorem reach_j (_h : ReachN p k x o s j) (hj : (j : Int) < (nextP p x).length) : 0 ≤ (nextP p x).getD (j : Int).toNat K.ints.dflt ∧ (nextP p x).getD (j : Int).toNat K.ints.dflt ≤ p.code.length ∧ (nextP p x).getD (j : Int).toNat K.ints.dflt ∈ nextP p x := by
  have hj' : j < (nextP p x).length := by omega
  have hm : (nextP p x).getD (j : Int).toNat K.ints.dflt ∈ nextP p x := by
    rw [Int.toNat_natCast, getD_atI hj']; exact List.getElem_mem hj'
  exact ⟨(next_rng hm).1, (next_rng hm).2, hm⟩
theorem take_j (hj : (j : Int) < (nextP p x).length) : (nextP p x).take (j + 1) = (nextP p x).take j ++ [(nextP p x).getD (j : Int).toNat K.ints.dflt] := by
  have hj' : j < (nextP p x).length := by omega
  rw [List.take_succ_eq_append_getElem hj', Int.toNat_natCast, getD_atI hj']
theorem reach_y (h : ReachN p k x o s j) (hj : (j : Int) < (nextP p x).length) (hx : s.getD ((nextP p x).getD (j : Int).toNat K.ints.dflt).toNat K.bools.dflt = true) : ReachN p k x o s (j + 1) := by
  obtain ⟨r1, r2, r3⟩ := reach_j h hj
  refine ⟨h.base, h.at1, h.at2, by omega, fun n hn => ?_⟩
  rw [take_j hj, List.mem_append, List.mem_singleton] at hn
  rcases hn with hn | rfl
  · exact h.cur n hn
  · have := h.base.inn _ hx
    rwa [Int.toNat_of_nonneg r1] at this
theorem count_set {s : List Bool} {n : Nat} (hn : n < s.length) (h : s.getD n false = false) : (s.set n true).count true = s.count true + 1 := by
  induction s generalizing n with
  | nil => simp at hn
  | cons b s ih =>
    cases n with
    | zero =>
      have hb : b = false := h
      subst hb
      simp
    | succ n =>
      have := ih (n := n) (by simpa using hn) (by simpa using h)
      rw [List.set_cons_succ, List.count_cons, List.count_cons, this]; omega
theorem reach_n (h : ReachN p k x o s j) (hj : (j : Int) < (nextP p x).length) (hx : s.getD ((nextP p x).getD (j : Int).toNat K.ints.dflt).toNat K.bools.dflt = false) :
    ReachN p k x (o ++ [(nextP p x).getD (j : Int).toNat K.ints.dflt]) (s.set ((nextP p x).getD (j : Int).toNat K.ints.dflt).toNat true) (j + 1) := by
  obtain ⟨r1, r2, r3⟩ := reach_j h hj
  have ht := take_j (p := p) hj
  generalize (nextP p x).getD (j : Int).toNat K.ints.dflt = m at hx r1 r2 r3 ht
  have hb := h.base
  have hl : m.toNat < s.length := by have := hb.hs; omega
  have k1 := h.at1
  have hsame : ∀ i, i < o.length → (o ++ [m]).getD i K.ints.dflt = o.getD i K.ints.dflt := fun i hi => by
    rw [List.getD_eq_getElem?_getD, List.getD_eq_getElem?_getD, List.getElem?_append_left hi]
  refine ⟨⟨by simpa using hb.hs, ?_, by rw [List.length_append]; omega, List.mem_append_left _ hb.zero, fun y hy => ?_, fun n hn => ?_, fun i hi n hn => ?_⟩, by rw [List.length_append]; omega, ?_, by omega, fun n hn => ?_⟩
  · rw [List.length_append, count_set hl hx, hb.cnt]; rfl
  · rw [List.mem_append, List.mem_singleton] at hy
    rcases hy with hy | rfl
    · exact hb.rng y hy
    · exact ⟨r1, r2⟩
  · rw [List.mem_append, List.mem_singleton]
    by_cases e : n = m.toNat
    · right; omega
    · left
      refine hb.inn n ?_
      rw [List.getD_eq_getElem?_getD, List.getElem?_set_ne (by omega)] at hn
      rw [List.getD_eq_getElem?_getD]; exact hn
  · rw [hsame i (by omega)] at hn
    exact List.mem_append_left _ (hb.don i hi n hn)
  · rw [hsame _ (by omega)]; exact h.at2
  · rw [ht, List.mem_append, List.mem_singleton] at hn
    rw [List.mem_append, List.mem_singleton]
    rcases hn with hn | hn
    · exact .inl (h.cur n hn)
    · exact .inr hn
theorem reach_out (h : ReachN p k x o s j) (hj : ¬ (j : Int) < (nextP p x).length) : ReachO p o s (k + 1) := by
  have hb := h.base
  have k1 := h.at1
  refine ⟨hb.hs, hb.cnt, by omega, hb.zero, hb.rng, hb.inn, fun i hi n hn => ?_⟩
  by_cases e : i = k
  · subst e
    have e2 := h.at2
    rw [Int.toNat_natCast] at e2
    rw [e2] at hn
    refine h.cur n ?_
    rw [List.take_of_length_le (by omega)]; exact hn
  · exact hb.don i (by omega) n hn
theorem reach_fin (hp : progP p = true) (h : ReachO p o s k) (hk : ¬ (k : Int) < o.length) : ReachL p (asc o) := by
  refine ⟨⟨asc_mem.2 h.zero, fun pc hpc n hn => ?_⟩, Nat.le_trans (asc_len _) (h.le hp).2⟩
  rw [asc_mem] at hpc ⊢
  obtain ⟨i, hi, e⟩ := List.mem_iff_getElem.1 hpc
  refine h.don i (by omega) n ?_
  rw [getD_atI hi, e]; exact hn
end
theorem reach_fin' {p : V.Prog} {o : List Int} {s : List Bool} {k : Nat} {x : AV} {B : List Blk} (hp : progP p = true) (h : ReachO p o s k) (hk : ¬ (k : Int) < o.length) (hx : x = .row 0) (hB : B = [.row 3 .ints (asc o) false]) : ∃ R : List Int, x = .row 0 ∧ B = [.row 3 .ints R false] ∧ ReachL p R :=
  ⟨_, hx, hB, reach_fin hp h hk⟩
set_option maxHeartbeats 8000000 in
set_option maxRecDepth 100000 in
theorem i_ReachedOf (w mem inn : Int) (c : List V.Ins) (hp : progP ⟨w, mem, inn, c⟩ = true) : CallsF Try.prog 32 [.agg [.dat (.i w), .dat (.i mem), .dat (.i inn), .dat (.seq .inss c)]] true (fun res B => ∃ R : List Int, res = .row 0 ∧ B = [.row 3 .ints R false] ∧ ReachL ⟨w, mem, inn, c⟩ R) := by
  refine CallsF.of_awp tauOk mixOk Try.func32 rfl rfl rfl ?_
  conv => whnf
  repeat' (first
    | ((with_reducible refine Alt.l ?_); conv => whnf)
    | ((with_reducible refine fun (K1 : AX → AState → Prop) hK => ?_); conv => whnf)
    | ((with_reducible show K1 _ _); subst hK; conv => whnf)
    | (with_reducible exact rfl)
    | ((with_reducible refine sp_T ?_); conv => whnf)
    | ((with_reducible refine sp_F ?_); conv => whnf)
    | ((with_reducible refine sp_T' ?_); conv => whnf)
    | ((with_reducible refine sp_F' ?_); conv => whnf)
    | ((with_reducible refine sp_dF ?_ ?_); decide; conv => whnf)
    | ((with_reducible refine sp_dT ?_ ?_); decide; conv => whnf)
    | ((with_reducible refine sp_d (fun h => ?_) (fun h => ?_)) <;> first | contradiction | (subst h; conv => whnf) | (conv => whnf))
    | ((with_reducible refine sp_d' (fun h => ?_) (fun h => ?_)) <;> first | contradiction | (subst h; conv => whnf) | (conv => whnf))
    | ((with_reducible refine sp_eF ?_ ?_); decide; conv => whnf)
    | ((with_reducible refine sp_eT ?_); conv => whnf)
    | ((with_reducible refine sp_e (fun h => ?_) (fun h => ?_)) <;> first | contradiction | (subst h; conv => whnf) | (conv => whnf))
    | ((with_reducible refine sp_e' (fun h => ?_) (fun h => ?_)) <;> first | contradiction | (subst h; conv => whnf) | (conv => whnf))
    | ((with_reducible refine sp_n (fun h => ?_) (fun h => ?_)) <;> first | contradiction | (subst h; conv => whnf) | (conv => whnf))
    | ((with_reducible refine sp_n' (fun h => ?_) (fun h => ?_)) <;> first | contradiction | (subst h; conv => whnf) | (conv => whnf))
    | ((with_reducible refine sp_nb (fun h => ?_) (fun h => ?_)) <;> first | (exact Bool.noConfusion (Eq.trans (Eq.symm h) (show _ = true by with_reducible assumption))) | (exact Bool.noConfusion (Eq.trans (Eq.symm (show _ = false by with_reducible assumption)) h)) | (conv => whnf))
    | ((with_reducible refine sp_nb' (fun h => ?_) (fun h => ?_)) <;> first | (exact Bool.noConfusion (Eq.trans (Eq.symm h) (show _ = true by with_reducible assumption))) | (exact Bool.noConfusion (Eq.trans (Eq.symm (show _ = false by with_reducible assumption)) h)) | (conv => whnf))
    | ((with_reducible refine sp_b (fun h => ?_) (fun h => ?_)) <;> first | (exact Bool.noConfusion (Eq.trans (Eq.symm h) (show _ = true by with_reducible assumption))) | (exact Bool.noConfusion (Eq.trans (Eq.symm (show _ = false by with_reducible assumption)) h)) | (conv => whnf))
    | ((with_reducible refine sp_b' (fun h => ?_) (fun h => ?_)) <;> first | (exact Bool.noConfusion (Eq.trans (Eq.symm h) (show _ = true by with_reducible assumption))) | (exact Bool.noConfusion (Eq.trans (Eq.symm (show _ = false by with_reducible assumption)) h)) | (conv => whnf))
    | (refine ⟨(rfl : nodupB _ = true), rfl, ?_⟩; conv => whnf)
    | (with_reducible refine bnd2 ?_ ?_)
    | (with_reducible refine bnd2' ?_ ?_)
    | (with_reducible refine bndN ?_ ?_)
    | ((with_reducible refine and_of ?_ ?_); conv => whnf)
    | (refine Exists.intro ({x : (List Int × List Bool) × Nat // ReachN ⟨w, mem, inn, c⟩ k (out.getD (k : Int).toNat K.ints.dflt) x.1.1 x.1.2 x.2}) (Exists.intro (fun ⟨⟨⟨o2, s2⟩, j⟩, hJ⟩ => mkS Try.f32.ntmps [(1, .ptr 1 0), (3, .row 103), (4, .row 104), (5, .dat (.i k)), (30, .dat (.seq .ints (nextP ⟨w, mem, inn, c⟩ (out.getD (k : Int).toNat K.ints.dflt)))), (31, .dat (.i (nextP ⟨w, mem, inn, c⟩ (out.getD (k : Int).toNat K.ints.dflt)).length)), (32, .dat (.i j))] [(1, .box [.dat (.i w), .dat (.i mem), .dat (.i inn), .dat (.seq .inss c)]), (103, .row 4 .bools s2 false), (104, .row 3 .ints o2 false)]) (Exists.intro (fun ⟨⟨⟨o2, s2⟩, j⟩, hJ⟩ => (nextP ⟨w, mem, inn, c⟩ (out.getD (k : Int).toNat K.ints.dflt)).length - j) (Exists.intro ⟨⟨⟨?_, ?_⟩, 0⟩, ?_⟩ (And.intro (SubP.sub (σ := [(1, some 1), (103, some 103), (104, some 104)]) ⟨⟨rfl, rfl, rfl⟩, ⟨⟨rfl, rfl⟩, rfl, rfl, (wk_dat ?_), (wk_dat ?_), (wk_dat ?_), (wk_dat ?_), trivial⟩, ⟨⟨(wkC_dat ?_), (wkC_dat ?_), (wkC_dat ?_), (wkC_dat ?_), trivial⟩, ⟨⟨rfl, rfl⟩, ?_⟩, ⟨⟨rfl, rfl⟩, ?_⟩, trivial⟩⟩) (fun ⟨⟨⟨o2, s2⟩, j⟩, hJ⟩ => ?_))))); rotate_right; conv => whnf)
    | (refine Exists.intro (⟨⟨⟨?_, ?_⟩, j + 1⟩, ?_⟩ : {x : (List Int × List Bool) × Nat // ReachN ⟨w, mem, inn, c⟩ k (out.getD (k : Int).toNat K.ints.dflt) x.1.1 x.1.2 x.2}) (And.intro ?_ (SubP.sub (σ := [(1, some 1), (103, some 103), (104, some 104)]) ⟨⟨rfl, rfl, rfl⟩, ⟨⟨rfl, rfl⟩, rfl, rfl, (wk_dat ?_), (wk_dat ?_), (wk_dat ?_), (wk_dat ?_), trivial⟩, ⟨⟨(wkC_dat ?_), (wkC_dat ?_), (wkC_dat ?_), (wkC_dat ?_), trivial⟩, ⟨⟨rfl, rfl⟩, ?_⟩, ⟨⟨rfl, rfl⟩, ?_⟩, trivial⟩⟩)))
    | (refine Exists.intro (⟨⟨⟨?_, ?_⟩, j + 1⟩, ?_⟩ : {x : (List Int × List Bool) × Nat // ReachN ⟨w, mem, inn, c⟩ k (out.getD (k : Int).toNat K.ints.dflt) x.1.1 x.1.2 x.2}) (And.intro ?_ (SubP.sub (σ := [(1, some 1), (103, some 103), (104, some 47)]) ⟨⟨rfl, rfl, rfl⟩, ⟨⟨rfl, rfl⟩, rfl, rfl, (wk_dat ?_), (wk_dat ?_), (wk_dat ?_), (wk_dat ?_), trivial⟩, ⟨⟨(wkC_dat ?_), (wkC_dat ?_), (wkC_dat ?_), (wkC_dat ?_), trivial⟩, ⟨⟨rfl, rfl⟩, ?_⟩, ⟨⟨rfl, rfl⟩, ?_⟩, trivial⟩⟩)))
    | (refine Exists.intro ({x : (List Int × List Bool) × Nat // ReachO ⟨w, mem, inn, c⟩ x.1.1 x.1.2 x.2}) (Exists.intro (fun ⟨⟨⟨out, seen⟩, k⟩, hI⟩ => mkS Try.f32.ntmps [(1, .ptr 1 0), (3, .row 103), (4, .row 104), (5, .dat (.i k))] [(1, .box [.dat (.i w), .dat (.i mem), .dat (.i inn), .dat (.seq .inss c)]), (103, .row 4 .bools seen false), (104, .row 3 .ints out false)]) (Exists.intro (fun ⟨⟨⟨out, seen⟩, k⟩, hI⟩ => c.length + 1 - k) (Exists.intro ⟨⟨⟨?_, ?_⟩, 0⟩, ?_⟩ (And.intro (SubP.sub (σ := [(1, some 1), (103, some 15), (104, some 18)]) ⟨⟨rfl, rfl, rfl⟩, ⟨⟨rfl, rfl⟩, rfl, rfl, (wk_dat ?_), trivial⟩, ⟨⟨(wkC_dat ?_), (wkC_dat ?_), (wkC_dat ?_), (wkC_dat ?_), trivial⟩, ⟨⟨rfl, rfl⟩, ?_⟩, ⟨⟨rfl, rfl⟩, ?_⟩, trivial⟩⟩) (fun ⟨⟨⟨out, seen⟩, k⟩, hI⟩ => ?_))))); rotate_right; conv => whnf)
    | (refine Exists.intro (⟨⟨⟨?_, ?_⟩, k + 1⟩, ?_⟩ : {x : (List Int × List Bool) × Nat // ReachO ⟨w, mem, inn, c⟩ x.1.1 x.1.2 x.2}) (And.intro ?_ (SubP.sub (σ := [(1, some 1), (103, some 103), (104, some 104)]) ⟨⟨rfl, rfl, rfl⟩, ⟨⟨rfl, rfl⟩, rfl, rfl, (wk_dat ?_), trivial⟩, ⟨⟨(wkC_dat ?_), (wkC_dat ?_), (wkC_dat ?_), (wkC_dat ?_), trivial⟩, ⟨⟨rfl, rfl⟩, ?_⟩, ⟨⟨rfl, rfl⟩, ?_⟩, trivial⟩⟩)))
    | ((with_reducible refine pcI (g := 57) ?_); refine ⟨_, i_ProgramOk .., rfl, ?_⟩; rotate_right; conv => whnf)
    | ((with_reducible show Exists _); refine Exists.intro _ (And.intro (i_ProgramOk ..) (And.intro rfl ?_)); rotate_right; conv => whnf)
    | ((with_reducible refine pcI (g := 35) ?_); refine ⟨_, i_NextOf .., rfl, ?_⟩; rotate_right; conv => whnf)
    | ((with_reducible show Exists _); refine Exists.intro _ (And.intro (i_NextOf ..) (And.intro rfl ?_)); rotate_right; conv => whnf)
    | ((with_reducible refine gcI (g := 90) ?_); refine ⟨_, _, i_ascending (hl := ?_) .., fun res B hRB => ?_⟩; rotate_right; obtain ⟨rfl, rfl⟩ := hRB; conv => whnf)
    | ((with_reducible show awpOps _ _ _ _ _ _); conv => whnf)
    | (intro h; conv => whnf))
  all_goals (repeat (clear hK; clear K1))
  all_goals first
    | (with_reducible assumption)
    | exact (reach_j hJ (by with_reducible assumption)).1
    | exact reach_y hJ (by with_reducible assumption) (by with_reducible assumption)
    | exact reach_n hJ (by with_reducible assumption) (by with_reducible assumption)
    | exact reach_in hI (by with_reducible assumption)
    | exact reach_out hJ (by with_reducible assumption)
    | exact reach_0w hp
    | exact reach_fin' hp hI (by with_reducible assumption) rfl rfl
    | (have q := (reach_j hJ (by with_reducible assumption)).2.1; have q2 := hJ.base.hs; simp only at q q2; omega)
    | exact congrArg (Dat.int .i64) (wrap_succ (by with_reducible assumption) (by with_reducible assumption)).symm
    | (have q := next_len (p := ⟨w, mem, inn, c⟩) (pc := out.getD (k : Int).toNat K.ints.dflt); exact congrArg (Dat.int .i64) (wrap_id (by omega) (by omega)).symm)
    | exact rfl
    | (have q : o2.length ≤ 41 := (hJ.base.le hp).2; show (o2.length + 1) * 8 ≤ 140737488355328; omega)
    | (have q : o2.length ≤ 41 := (hJ.base.le hp).2; show o2.length + 1 ≤ maxLen; have hm : maxLen = 9223372036854775807 := rfl; omega)
    | (have q : o2.length ≤ c.length + 1 := (hJ.base.le hp).1; have q2 : k < o2.length := hJ.at1; show c.length + 1 - (k + 1) < c.length + 1 - k; omega)
    | (have q : out.length ≤ 41 := (hI.le hp).2; omega)
    | (have q := (len_w hp); have q2 := (prog_w hp); simp only at q q2; rw [q]; omega)
    | (have q := (len_w hp); have q2 := (prog_w hp); simp only at q q2; rw [q]; simp; omega)
    | (have q := (len_w hp); have q2 := (prog_w hp); simp only at q q2; rw [q]; simp; done)
    | (have q := (len_w hp); have q2 := (prog_w hp); simp only at q q2; rw [q]; rw [show ty4.bytes = 1 from rfl]; omega)
    | (have q := (len_w hp); have q2 := (prog_w hp); simp only at q q2; rw [q]; have hm : maxLen = 9223372036854775807 := rfl; omega)
    | (have q := (prog_w hp); simp only at q; omega)
    | omega
    | (dsimp only; omega)
    | skip
def backsP (p : V.Prog) (x : Int) (j : Nat) : List Int := ((nextP p x).take j).filter fun n => decide (n ≤ x)
def headsTo (p : V.Prog) (R : List Int) : Nat → List Int
  | 0 => []
  | k + 1 => headsTo p R k ++ backsP p (R.getD k K.ints.dflt) (nextP p (R.getD k K.ints.dflt)).length
theorem backs_len (p : V.Prog) (x : Int) (j : Nat) : (backsP p x j).length ≤ 2 := by
  refine Nat.le_trans (List.length_filter_le _ _) ?_
  rw [List.length_take]
  have := next_len (p := p) (pc := x)
  omega
theorem heads_len (p : V.Prog) (R : List Int) : ∀ k, (headsTo p R k).length ≤ 2 * k
  | 0 => Nat.le_refl _
  | k + 1 => by
    have := heads_len p R k
    have := backs_len p (R.getD k K.ints.dflt) (nextP p (R.getD k K.ints.dflt)).length
    rw [headsTo, List.length_append]; omega
theorem heads_mem {p : V.Prog} {R : List Int} {n : Int} : ∀ {k i : Nat}, i < k → n ∈ nextP p (R.getD i K.ints.dflt) → n ≤ R.getD i K.ints.dflt → n ∈ headsTo p R k
  | 0, i, h, _, _ => absurd h (Nat.not_lt_zero _)
  | k + 1, i, h, h1, h2 => by
    rw [headsTo, List.mem_append]
    by_cases e : i = k
    · subst e; right
      rw [backsP, List.take_of_length_le (Nat.le_refl _), List.mem_filter]
      exact ⟨h1, decide_eq_true h2⟩
    · exact .inl (heads_mem (by omega) h1 h2)
theorem heads_ok {p : V.Prog} {R : List Int} (h : ReachL p R) : HeadsI p (asc (headsTo p R R.length)) :=
  ⟨R, h.ok, fun pc hpc n hn hle => by
    obtain ⟨i, hi, e⟩ := List.mem_iff_getElem.1 hpc
    rw [asc_mem]
    refine heads_mem hi ?_ ?_
    · rw [getD_atI hi, e]; exact hn
    · rw [getD_atI hi, e]; exact hle⟩
section
variable {p : V.Prog} {x : Int} {j : Nat}
theorem backs_y (hj : (j : Int) < (nextP p x).length) (h : (nextP p x).getD (j : Int).toNat K.ints.dflt ≤ x) : backsP p x (j + 1) = backsP p x j ++ [(nextP p x).getD (j : Int).toNat K.ints.dflt] := by
  rw [backsP, take_j hj, List.filter_append, List.filter_cons_of_pos (p := fun n => decide (n ≤ x)) (by simpa using h)]; rfl
theorem backs_n (hj : (j : Int) < (nextP p x).length) (h : ¬ (nextP p x).getD (j : Int).toNat K.ints.dflt ≤ x) : backsP p x (j + 1) = backsP p x j := by
  rw [backsP, take_j hj, List.filter_append, List.filter_cons_of_neg (p := fun n => decide (n ≤ x)) (by simpa using h), List.filter_nil, List.append_nil]; rfl
end
theorem heads_y {p : V.Prog} {R : List Int} {k j : Nat} (hj : (j : Int) < (nextP p (R.getD (k : Int).toNat K.ints.dflt)).length) (h : (nextP p (R.getD (k : Int).toNat K.ints.dflt)).getD (j : Int).toNat K.ints.dflt ≤ R.getD (k : Int).toNat K.ints.dflt) :
    headsTo p R k ++ backsP p (R.getD (k : Int).toNat K.ints.dflt) (j + 1) = (headsTo p R k ++ backsP p (R.getD (k : Int).toNat K.ints.dflt) j) ++ [(nextP p (R.getD (k : Int).toNat K.ints.dflt)).getD (j : Int).toNat K.ints.dflt] := by rw [backs_y hj h, List.append_assoc]
theorem heads_n {p : V.Prog} {R : List Int} {k j : Nat} (hj : (j : Int) < (nextP p (R.getD (k : Int).toNat K.ints.dflt)).length) (h : ¬ (nextP p (R.getD (k : Int).toNat K.ints.dflt)).getD (j : Int).toNat K.ints.dflt ≤ R.getD (k : Int).toNat K.ints.dflt) :
    headsTo p R k ++ backsP p (R.getD (k : Int).toNat K.ints.dflt) (j + 1) = headsTo p R k ++ backsP p (R.getD (k : Int).toNat K.ints.dflt) j := by rw [backs_n hj h]
theorem heads_0 {p : V.Prog} {R : List Int} {k : Nat} {x : Int} : headsTo p R k ++ backsP p x 0 = headsTo p R k := by simp [backsP]
theorem heads_s {p : V.Prog} {R : List Int} {k j : Nat} (hl : j ≤ (nextP p (R.getD (k : Int).toNat K.ints.dflt)).length) (hj : ¬ (j : Int) < (nextP p (R.getD (k : Int).toNat K.ints.dflt)).length) : headsTo p R (k + 1) = headsTo p R k ++ backsP p (R.getD (k : Int).toNat K.ints.dflt) j := by
  obtain rfl : j = (nextP p (R.getD (k : Int).toNat K.ints.dflt)).length := by omega
  rw [Int.toNat_natCast]; rfl
theorem heads_fin {p : V.Prog} {R : List Int} {k : Nat} {x : AV} {B : List Blk} (h : ReachL p R) (hl : k ≤ R.length) (hk : ¬ (k : Int) < R.length) (hx : x = .row 0) (hB : B = [.row 3 .ints (asc (headsTo p R k)) false]) : ∃ H : List Int, x = .row 0 ∧ B = [.row 3 .ints H false] ∧ HeadsI p H := by
  obtain rfl : k = R.length := by omega
  exact ⟨_, hx, hB, heads_ok h⟩
set_option maxHeartbeats 8000000 in
set_option maxRecDepth 100000 in
theorem i_LoopHeads (w mem inn : Int) (c : List V.Ins) (hp : progP ⟨w, mem, inn, c⟩ = true) : CallsF Try.prog 33 [.agg [.dat (.i w), .dat (.i mem), .dat (.i inn), .dat (.seq .inss c)]] true (fun res B => ∃ H : List Int, res = .row 0 ∧ B = [.row 3 .ints H false] ∧ HeadsI ⟨w, mem, inn, c⟩ H) := by
  refine CallsF.of_awp tauOk mixOk Try.func33 rfl rfl rfl ?_
  conv => whnf
  repeat' (first
    | ((with_reducible refine Alt.l ?_); conv => whnf)
    | ((with_reducible refine fun (K1 : AX → AState → Prop) hK => ?_); conv => whnf)
    | ((with_reducible show K1 _ _); subst hK; conv => whnf)
    | (with_reducible exact rfl)
    | ((with_reducible refine sp_T ?_); conv => whnf)
    | ((with_reducible refine sp_F ?_); conv => whnf)
    | ((with_reducible refine sp_T' ?_); conv => whnf)
    | ((with_reducible refine sp_F' ?_); conv => whnf)
    | ((with_reducible refine sp_dF ?_ ?_); decide; conv => whnf)
    | ((with_reducible refine sp_dT ?_ ?_); decide; conv => whnf)
    | ((with_reducible refine sp_d (fun h => ?_) (fun h => ?_)) <;> first | contradiction | (subst h; conv => whnf) | (conv => whnf))
    | ((with_reducible refine sp_d' (fun h => ?_) (fun h => ?_)) <;> first | contradiction | (subst h; conv => whnf) | (conv => whnf))
    | ((with_reducible refine sp_eF ?_ ?_); decide; conv => whnf)
    | ((with_reducible refine sp_eT ?_); conv => whnf)
    | ((with_reducible refine sp_e (fun h => ?_) (fun h => ?_)) <;> first | contradiction | (subst h; conv => whnf) | (conv => whnf))
    | ((with_reducible refine sp_e' (fun h => ?_) (fun h => ?_)) <;> first | contradiction | (subst h; conv => whnf) | (conv => whnf))
    | ((with_reducible refine sp_n (fun h => ?_) (fun h => ?_)) <;> first | contradiction | (subst h; conv => whnf) | (conv => whnf))
    | ((with_reducible refine sp_n' (fun h => ?_) (fun h => ?_)) <;> first | contradiction | (subst h; conv => whnf) | (conv => whnf))
    | ((with_reducible refine sp_nb (fun h => ?_) (fun h => ?_)) <;> first | (exact Bool.noConfusion (Eq.trans (Eq.symm h) (show _ = true by with_reducible assumption))) | (exact Bool.noConfusion (Eq.trans (Eq.symm (show _ = false by with_reducible assumption)) h)) | (conv => whnf))
    | ((with_reducible refine sp_nb' (fun h => ?_) (fun h => ?_)) <;> first | (exact Bool.noConfusion (Eq.trans (Eq.symm h) (show _ = true by with_reducible assumption))) | (exact Bool.noConfusion (Eq.trans (Eq.symm (show _ = false by with_reducible assumption)) h)) | (conv => whnf))
    | ((with_reducible refine sp_b (fun h => ?_) (fun h => ?_)) <;> first | (exact Bool.noConfusion (Eq.trans (Eq.symm h) (show _ = true by with_reducible assumption))) | (exact Bool.noConfusion (Eq.trans (Eq.symm (show _ = false by with_reducible assumption)) h)) | (conv => whnf))
    | ((with_reducible refine sp_b' (fun h => ?_) (fun h => ?_)) <;> first | (exact Bool.noConfusion (Eq.trans (Eq.symm h) (show _ = true by with_reducible assumption))) | (exact Bool.noConfusion (Eq.trans (Eq.symm (show _ = false by with_reducible assumption)) h)) | (conv => whnf))
    | (refine ⟨(rfl : nodupB _ = true), rfl, ?_⟩; conv => whnf)
    | (with_reducible refine bnd2 ?_ ?_)
    | (with_reducible refine bnd2' ?_ ?_)
    | (with_reducible refine bndN ?_ ?_)
    | ((with_reducible refine and_of ?_ ?_); conv => whnf)
    | (refine Exists.intro ({j : Nat // j ≤ (nextP ⟨w, mem, inn, c⟩ (R.getD (k : Int).toNat K.ints.dflt)).length}) (Exists.intro (fun ⟨j, hj⟩ => mkS Try.f33.ntmps [(1, .ptr 1 0), (3, .row 103), (5, .dat (.i (R.getD (k : Int).toNat K.ints.dflt))), (9, .row 109), (10, .dat (.i R.length)), (11, .dat (.i k)), (17, .dat (.seq .ints (nextP ⟨w, mem, inn, c⟩ (R.getD (k : Int).toNat K.ints.dflt)))), (18, .dat (.i (nextP ⟨w, mem, inn, c⟩ (R.getD (k : Int).toNat K.ints.dflt)).length)), (19, .dat (.i j))] [(1, .box [.dat (.i w), .dat (.i mem), .dat (.i inn), .dat (.seq .inss c)]), (103, .row 3 .ints (headsTo ⟨w, mem, inn, c⟩ R k ++ backsP ⟨w, mem, inn, c⟩ (R.getD (k : Int).toNat K.ints.dflt) j) false), (109, .row 3 .ints R false)]) (Exists.intro (fun ⟨j, hj⟩ => (nextP ⟨w, mem, inn, c⟩ (R.getD (k : Int).toNat K.ints.dflt)).length - j) (Exists.intro ⟨0, Nat.zero_le _⟩ (And.intro (SubP.sub (σ := [(1, some 1), (103, some 103), (109, some 109)]) ⟨⟨rfl, rfl, rfl⟩, ⟨⟨rfl, rfl⟩, rfl, (wk_dat ?_), rfl, (wk_dat ?_), (wk_dat ?_), (wk_dat ?_), (wk_dat ?_), (wk_dat ?_), trivial⟩, ⟨⟨(wkC_dat ?_), (wkC_dat ?_), (wkC_dat ?_), (wkC_dat ?_), trivial⟩, ⟨⟨rfl, rfl⟩, ?_⟩, ⟨⟨rfl, rfl⟩, ?_⟩, trivial⟩⟩) (fun ⟨j, hj⟩ => ?_))))); rotate_right; conv => whnf)
    | (refine Exists.intro (⟨j + 1, ?_⟩ : {j : Nat // j ≤ (nextP ⟨w, mem, inn, c⟩ (R.getD (k : Int).toNat K.ints.dflt)).length}) (And.intro ?_ (SubP.sub (σ := [(1, some 1), (103, some 103), (109, some 109)]) ⟨⟨rfl, rfl, rfl⟩, ⟨⟨rfl, rfl⟩, rfl, (wk_dat ?_), rfl, (wk_dat ?_), (wk_dat ?_), (wk_dat ?_), (wk_dat ?_), (wk_dat ?_), trivial⟩, ⟨⟨(wkC_dat ?_), (wkC_dat ?_), (wkC_dat ?_), (wkC_dat ?_), trivial⟩, ⟨⟨rfl, rfl⟩, ?_⟩, ⟨⟨rfl, rfl⟩, ?_⟩, trivial⟩⟩)))
    | (refine Exists.intro (⟨j + 1, ?_⟩ : {j : Nat // j ≤ (nextP ⟨w, mem, inn, c⟩ (R.getD (k : Int).toNat K.ints.dflt)).length}) (And.intro ?_ (SubP.sub (σ := [(1, some 1), (103, some 29), (109, some 109)]) ⟨⟨rfl, rfl, rfl⟩, ⟨⟨rfl, rfl⟩, rfl, (wk_dat ?_), rfl, (wk_dat ?_), (wk_dat ?_), (wk_dat ?_), (wk_dat ?_), (wk_dat ?_), trivial⟩, ⟨⟨(wkC_dat ?_), (wkC_dat ?_), (wkC_dat ?_), (wkC_dat ?_), trivial⟩, ⟨⟨rfl, rfl⟩, ?_⟩, ⟨⟨rfl, rfl⟩, ?_⟩, trivial⟩⟩)))
    | (refine Exists.intro ({k : Nat // k ≤ R.length}) (Exists.intro (fun ⟨k, hk⟩ => mkS Try.f33.ntmps [(1, .ptr 1 0), (3, .row 103), (9, .row 109), (10, .dat (.i R.length)), (11, .dat (.i k))] [(1, .box [.dat (.i w), .dat (.i mem), .dat (.i inn), .dat (.seq .inss c)]), (103, .row 3 .ints (headsTo ⟨w, mem, inn, c⟩ R k) false), (109, .row 3 .ints R false)]) (Exists.intro (fun ⟨k, hk⟩ => R.length - k) (Exists.intro ⟨0, Nat.zero_le _⟩ (And.intro (SubP.sub (σ := [(1, some 1), (103, none), (109, some 10000)]) ⟨⟨rfl, rfl, rfl⟩, ⟨⟨rfl, rfl⟩, rfl, rfl, (wk_dat ?_), (wk_dat ?_), trivial⟩, ⟨⟨(wkC_dat ?_), (wkC_dat ?_), (wkC_dat ?_), (wkC_dat ?_), trivial⟩, ?_, ⟨⟨rfl, rfl⟩, ?_⟩, trivial⟩⟩) (fun ⟨k, hk⟩ => ?_))))); rotate_right; conv => whnf)
    | (refine Exists.intro (⟨k + 1, ?_⟩ : {k : Nat // k ≤ R.length}) (And.intro ?_ (SubP.sub (σ := [(1, some 1), (103, some 103), (109, some 109)]) ⟨⟨rfl, rfl, rfl⟩, ⟨⟨rfl, rfl⟩, rfl, rfl, (wk_dat ?_), (wk_dat ?_), trivial⟩, ⟨⟨(wkC_dat ?_), (wkC_dat ?_), (wkC_dat ?_), (wkC_dat ?_), trivial⟩, ⟨⟨rfl, rfl⟩, ?_⟩, ⟨⟨rfl, rfl⟩, ?_⟩, trivial⟩⟩)))
    | ((with_reducible refine fcI (g := 32) ?_); refine ⟨_, _, i_ReachedOf (hp := by with_reducible assumption) .., rfl, fun res B hRB => ?_⟩; rotate_right; obtain ⟨R, rfl, rfl, hR⟩ := hRB; conv => whnf)
    | ((with_reducible refine pcI (g := 35) ?_); refine ⟨_, i_NextOf .., rfl, ?_⟩; rotate_right; conv => whnf)
    | ((with_reducible show Exists _); refine Exists.intro _ (And.intro (i_NextOf ..) (And.intro rfl ?_)); rotate_right; conv => whnf)
    | ((with_reducible refine gcI (g := 90) ?_); refine ⟨_, _, i_ascending (hl := ?_) .., fun res B hRB => ?_⟩; rotate_right; obtain ⟨rfl, rfl⟩ := hRB; conv => whnf)
    | ((with_reducible show awpOps _ _ _ _ _ _); conv => whnf)
    | (intro h; conv => whnf))
  all_goals (repeat (clear hK; clear K1))
  all_goals first
    | (with_reducible assumption)
    | exact sig_fin (heads_y (by with_reducible assumption) (by with_reducible assumption))
    | exact sig_fin (heads_n (by with_reducible assumption) (by with_reducible assumption))
    | exact sig_fin (heads_s hj (by with_reducible assumption))
    | exact sig_fin heads_0
    | exact heads_fin hR hk (by with_reducible assumption) rfl rfl
    | exact congrArg (Dat.int .i64) (wrap_succ (by with_reducible assumption) (by with_reducible assumption)).symm
    | exact rfl
    | (have q := heads_len ⟨w, mem, inn, c⟩ R k; have q2 := hR.len; have q3 := backs_len ⟨w, mem, inn, c⟩ (R.getD (k : Int).toNat K.ints.dflt) j; show (headsTo ⟨w, mem, inn, c⟩ R k ++ backsP ⟨w, mem, inn, c⟩ (R.getD (k : Int).toNat K.ints.dflt) j).length + 1 ≤ maxLen; have hm : maxLen = 9223372036854775807 := rfl; rw [List.length_append]; omega)
    | (have q := heads_len ⟨w, mem, inn, c⟩ R k; have q2 := hR.len; have q3 := backs_len ⟨w, mem, inn, c⟩ (R.getD (k : Int).toNat K.ints.dflt) j; show ((headsTo ⟨w, mem, inn, c⟩ R k ++ backsP ⟨w, mem, inn, c⟩ (R.getD (k : Int).toNat K.ints.dflt) j).length + 1) * 8 ≤ 140737488355328; rw [List.length_append]; omega)
    | (have q := heads_len ⟨w, mem, inn, c⟩ R k; have q2 := hR.len; show (headsTo ⟨w, mem, inn, c⟩ R k).length ≤ 1000000000; omega)
    | omega
    | (dsimp only; omega)
    | skip
theorem mok_st {p : V.Prog} {s : V.State} (hp : progP p = true) (m : MOk p s) : stateP p s = true := by
  obtain ⟨h1, h2, h3, h4, h5, h6, h7, h8, h9, h10, h11, h12⟩ := m
  simp only [stateP, Bool.and_eq_true, List.all_eq_true, decide_eq_true_eq, inP, beq_iff_eq]
  refine ⟨⟨hp, h4, h7⟩, fun x hx => ?_, ⟨h3.1, h3.2⟩, ⟨h10, by omega⟩, ⟨h11, h2⟩, ⟨h6.1, h6.2⟩, h12, ⟨h9.1, h9.2⟩, h8.1, h8.2⟩
  exact ⟨(h5 x hx).1, (h5 x hx).2⟩
theorem mok_small {p : V.Prog} {s : V.State} (hp : progP p = true) (m : MOk p s) : s.regs.length ≤ 1048576 ∧ s.mem.length ≤ 1048576 ∧ s.stack.length ≤ 1048576 ∧ s.out.length ≤ 1048576 := by
  have h1 := m.regs; have h2 := m.mem; have h3 := m.stk; have h4 := m.out
  have h5 := prog_mem hp
  omega
set_option maxRecDepth 100000 in
theorem v_NewState (w mem inn : Int) (c : List V.Ins) (hp : progP ⟨w, mem, inn, c⟩ = true) : CallsV Try.prog 26 [.agg [.dat (.i w), .dat (.i mem), .dat (.i inn), .dat (.seq .inss c)]] (datS (new0 ⟨w, mem, inn, c⟩)) := by
  refine CallsV.of_awp tauOk mixOk Try.func26 rfl rfl rfl ?_
  conv => whnf
  repeat' (first
    | ((with_reducible refine Alt.l ?_); conv => whnf)
    | ((with_reducible refine fun (K1 : AX → AState → Prop) hK => ?_); conv => whnf)
    | ((with_reducible show K1 _ _); subst hK; conv => whnf)
    | (with_reducible exact rfl)
    | ((with_reducible refine sp_T ?_); conv => whnf)
    | ((with_reducible refine sp_F ?_); conv => whnf)
    | ((with_reducible refine sp_T' ?_); conv => whnf)
    | ((with_reducible refine sp_F' ?_); conv => whnf)
    | ((with_reducible refine sp_dF ?_ ?_); decide; conv => whnf)
    | ((with_reducible refine sp_dT ?_ ?_); decide; conv => whnf)
    | ((with_reducible refine sp_d (fun h => ?_) (fun h => ?_)) <;> first | contradiction | (subst h; conv => whnf) | (conv => whnf))
    | ((with_reducible refine sp_d' (fun h => ?_) (fun h => ?_)) <;> first | contradiction | (subst h; conv => whnf) | (conv => whnf))
    | ((with_reducible refine sp_eF ?_ ?_); decide; conv => whnf)
    | ((with_reducible refine sp_eT ?_); conv => whnf)
    | ((with_reducible refine sp_e (fun h => ?_) (fun h => ?_)) <;> first | contradiction | (subst h; conv => whnf) | (conv => whnf))
    | ((with_reducible refine sp_e' (fun h => ?_) (fun h => ?_)) <;> first | contradiction | (subst h; conv => whnf) | (conv => whnf))
    | ((with_reducible refine sp_n (fun h => ?_) (fun h => ?_)) <;> first | contradiction | (subst h; conv => whnf) | (conv => whnf))
    | ((with_reducible refine sp_n' (fun h => ?_) (fun h => ?_)) <;> first | contradiction | (subst h; conv => whnf) | (conv => whnf))
    | ((with_reducible refine sp_nb (fun h => ?_) (fun h => ?_)) <;> first | (exact Bool.noConfusion (Eq.trans (Eq.symm h) (show _ = true by with_reducible assumption))) | (exact Bool.noConfusion (Eq.trans (Eq.symm (show _ = false by with_reducible assumption)) h)) | (conv => whnf))
    | ((with_reducible refine sp_nb' (fun h => ?_) (fun h => ?_)) <;> first | (exact Bool.noConfusion (Eq.trans (Eq.symm h) (show _ = true by with_reducible assumption))) | (exact Bool.noConfusion (Eq.trans (Eq.symm (show _ = false by with_reducible assumption)) h)) | (conv => whnf))
    | ((with_reducible refine sp_b (fun h => ?_) (fun h => ?_)) <;> first | (exact Bool.noConfusion (Eq.trans (Eq.symm h) (show _ = true by with_reducible assumption))) | (exact Bool.noConfusion (Eq.trans (Eq.symm (show _ = false by with_reducible assumption)) h)) | (conv => whnf))
    | ((with_reducible refine sp_b' (fun h => ?_) (fun h => ?_)) <;> first | (exact Bool.noConfusion (Eq.trans (Eq.symm h) (show _ = true by with_reducible assumption))) | (exact Bool.noConfusion (Eq.trans (Eq.symm (show _ = false by with_reducible assumption)) h)) | (conv => whnf))
    | (refine ⟨(rfl : nodupB _ = true), rfl, ?_⟩; conv => whnf)
    | (with_reducible refine bnd2 ?_ ?_)
    | (with_reducible refine bnd2' ?_ ?_)
    | (with_reducible refine bndN ?_ ?_)
    | ((with_reducible refine and_of ?_ ?_); conv => whnf)
    | ((with_reducible refine pcI (g := 57) ?_); refine ⟨_, i_ProgramOk .., rfl, ?_⟩; rotate_right; conv => whnf)
    | ((with_reducible show Exists _); refine Exists.intro _ (And.intro (i_ProgramOk ..) (And.intro rfl ?_)); rotate_right; conv => whnf)
    | ((with_reducible show awpOps _ _ _ _ _ _); conv => whnf)
    | (intro h; conv => whnf))
  all_goals (repeat (clear hK; clear K1))
  all_goals first | rfl | exact trivial | exact absurd ((show progP _ = false by assumption).symm.trans hp) Bool.noConfusion | (have := prog_mem hp; simp only at this; have hm : maxLen = 9223372036854775807 := rfl; omega) | (have := prog_mem hp; simp only at this; show (_ : Int) * ((8 : Nat) : Int) ≤ _; omega) | skip
set_option maxHeartbeats 4000000 in
set_option maxRecDepth 100000 in
theorem v_StepState (w mem inn : Int) (c : List V.Ins) (pc : Int) (rg mm sk : List Int) (ic : Int) (ot : List Int) (cd sp : Int) (inp : List Int) (hM : MOk ⟨w, mem, inn, c⟩ ⟨pc, rg, mm, sk, ic, ot, cd, sp⟩) (hi : inputsP ⟨w, mem, inn, c⟩ inp = true) : CallsV Try.prog 27 [.agg [.dat (.i w), .dat (.i mem), .dat (.i inn), .dat (.seq .inss c)], .agg [.dat (.i pc), .dat (.seq .ints rg), .dat (.seq .ints mm), .dat (.seq .ints sk), .dat (.i ic), .dat (.seq .ints ot), .dat (.i cd), .dat (.i sp)], .dat (.seq .ints inp)] (datS (stepM ⟨w, mem, inn, c⟩ ⟨pc, rg, mm, sk, ic, ot, cd, sp⟩ inp)) := by
  refine CallsV.of_awp tauOk mixOk Try.func27 rfl rfl rfl ?_
  conv => whnf
  repeat' (first
    | ((with_reducible refine Alt.l ?_); conv => whnf)
    | ((with_reducible refine fun (K1 : AX → AState → Prop) hK => ?_); conv => whnf)
    | ((with_reducible show K1 _ _); subst hK; conv => whnf)
    | (with_reducible exact rfl)
    | ((with_reducible refine sp_T ?_); conv => whnf)
    | ((with_reducible refine sp_F ?_); conv => whnf)
    | ((with_reducible refine sp_T' ?_); conv => whnf)
    | ((with_reducible refine sp_F' ?_); conv => whnf)
    | ((with_reducible refine sp_dF ?_ ?_); decide; conv => whnf)
    | ((with_reducible refine sp_dT ?_ ?_); decide; conv => whnf)
    | ((with_reducible refine sp_d (fun h => ?_) (fun h => ?_)) <;> first | contradiction | (subst h; conv => whnf) | (conv => whnf))
    | ((with_reducible refine sp_d' (fun h => ?_) (fun h => ?_)) <;> first | contradiction | (subst h; conv => whnf) | (conv => whnf))
    | ((with_reducible refine sp_eF ?_ ?_); decide; conv => whnf)
    | ((with_reducible refine sp_eT ?_); conv => whnf)
    | ((with_reducible refine sp_e (fun h => ?_) (fun h => ?_)) <;> first | contradiction | (subst h; conv => whnf) | (conv => whnf))
    | ((with_reducible refine sp_e' (fun h => ?_) (fun h => ?_)) <;> first | contradiction | (subst h; conv => whnf) | (conv => whnf))
    | ((with_reducible refine sp_n (fun h => ?_) (fun h => ?_)) <;> first | contradiction | (subst h; conv => whnf) | (conv => whnf))
    | ((with_reducible refine sp_n' (fun h => ?_) (fun h => ?_)) <;> first | contradiction | (subst h; conv => whnf) | (conv => whnf))
    | ((with_reducible refine sp_nb (fun h => ?_) (fun h => ?_)) <;> first | (exact Bool.noConfusion (Eq.trans (Eq.symm h) (show _ = true by with_reducible assumption))) | (exact Bool.noConfusion (Eq.trans (Eq.symm (show _ = false by with_reducible assumption)) h)) | (conv => whnf))
    | ((with_reducible refine sp_nb' (fun h => ?_) (fun h => ?_)) <;> first | (exact Bool.noConfusion (Eq.trans (Eq.symm h) (show _ = true by with_reducible assumption))) | (exact Bool.noConfusion (Eq.trans (Eq.symm (show _ = false by with_reducible assumption)) h)) | (conv => whnf))
    | ((with_reducible refine sp_b (fun h => ?_) (fun h => ?_)) <;> first | (exact Bool.noConfusion (Eq.trans (Eq.symm h) (show _ = true by with_reducible assumption))) | (exact Bool.noConfusion (Eq.trans (Eq.symm (show _ = false by with_reducible assumption)) h)) | (conv => whnf))
    | ((with_reducible refine sp_b' (fun h => ?_) (fun h => ?_)) <;> first | (exact Bool.noConfusion (Eq.trans (Eq.symm h) (show _ = true by with_reducible assumption))) | (exact Bool.noConfusion (Eq.trans (Eq.symm (show _ = false by with_reducible assumption)) h)) | (conv => whnf))
    | (refine ⟨(rfl : nodupB _ = true), rfl, ?_⟩; conv => whnf)
    | (with_reducible refine bnd2 ?_ ?_)
    | (with_reducible refine bnd2' ?_ ?_)
    | (with_reducible refine bndN ?_ ?_)
    | ((with_reducible refine and_of ?_ ?_); conv => whnf)
    | ((with_reducible refine pcI (g := 31) ?_); refine ⟨_, ip_StateOk .., rfl, ?_⟩; rotate_right; conv => whnf)
    | ((with_reducible show Exists _); refine Exists.intro _ (And.intro (ip_StateOk ..) (And.intro rfl ?_)); rotate_right; conv => whnf)
    | ((with_reducible refine pcI (g := 31) ?_); refine ⟨_, i_StateOk .., rfl, ?_⟩; rotate_right; conv => whnf)
    | ((with_reducible show Exists _); refine Exists.intro _ (And.intro (i_StateOk ..) (And.intro rfl ?_)); rotate_right; conv => whnf)
    | ((with_reducible refine pcI (g := 74) ?_); refine ⟨_, i_InputsOk .., rfl, ?_⟩; rotate_right; conv => whnf)
    | ((with_reducible show Exists _); refine Exists.intro _ (And.intro (i_InputsOk ..) (And.intro rfl ?_)); rotate_right; conv => whnf)
    | ((with_reducible refine fcI (g := 76) ?_); refine ⟨_, _, i_copyState (h1 := ?_) (h2 := ?_) (h3 := ?_) (h4 := ?_) .., rfl, fun res B hRB => ?_⟩; rotate_right; obtain ⟨rfl, rfl⟩ := hRB; conv => whnf)
    | ((with_reducible refine gcI (g := 78) ?_); refine ⟨_, _, i_step (hp := ?_) (hM := ?_) (hin := ?_) (_hiw := ?_) .., fun res B hRB => ?_⟩; rotate_right; obtain ⟨rfl, rfl⟩ := hRB; conv => whnf)
    | ((with_reducible show awpOps _ _ _ _ _ _); conv => whnf)
    | (intro h; conv => whnf))
  all_goals (repeat (clear hK; clear K1))
  all_goals first
    | (with_reducible assumption)
    | exact inp_p hi
    | exact inp_len hi
    | exact inp_w hi
    | exact (mok_small (inp_p hi) hM).1
    | exact (mok_small (inp_p hi) hM).2.1
    | exact (mok_small (inp_p hi) hM).2.2.1
    | exact (mok_small (inp_p hi) hM).2.2.2
    | exact inp_w hi _ (by with_reducible assumption)
    | exact trivial
    | exact absurd ((show inputsP _ _ = false by assumption).symm.trans hi) Bool.noConfusion
    | exact absurd ((show stateP _ _ = false by assumption).symm.trans (mok_st (inp_p hi) hM)) Bool.noConfusion
    | exact rfl
    | skip
set_option maxRecDepth 100000 in
theorem l_states (pc : Int) (rg mm sk : List Int) (ic : Int) (ot : List Int) (cd sp : Int) (pc' : Int) (rg' mm' sk' : List Int) (ic' : Int) (ot' : List Int) (cd' sp' : Int) : CallsV Try.prog 29 [.agg [.dat (.i pc), .dat (.seq .ints rg), .dat (.seq .ints mm), .dat (.seq .ints sk), .dat (.i ic), .dat (.seq .ints ot), .dat (.i cd), .dat (.i sp)], .agg [.dat (.i pc'), .dat (.seq .ints rg'), .dat (.seq .ints mm'), .dat (.seq .ints sk'), .dat (.i ic'), .dat (.seq .ints ot'), .dat (.i cd'), .dat (.i sp')]] (.dat (.bool (decide ((⟨pc, rg, mm, sk, ic, ot, cd, sp⟩ : V.State) = ⟨pc', rg', mm', sk', ic', ot', cd', sp'⟩)))) := by
  refine CallsV.of_awp tauOk mixOk Try.func29 rfl rfl rfl ?_
  conv => whnf
  repeat' (first
    | ((with_reducible refine Alt.l ?_); conv => whnf)
    | ((with_reducible refine fun (K1 : AX → AState → Prop) hK => ?_); conv => whnf)
    | ((with_reducible show K1 _ _); subst hK; conv => whnf)
    | (with_reducible exact rfl)
    | ((with_reducible refine sp_T ?_); conv => whnf)
    | ((with_reducible refine sp_F ?_); conv => whnf)
    | ((with_reducible refine sp_T' ?_); conv => whnf)
    | ((with_reducible refine sp_F' ?_); conv => whnf)
    | ((with_reducible refine sp_dF ?_ ?_); decide; conv => whnf)
    | ((with_reducible refine sp_dT ?_ ?_); decide; conv => whnf)
    | ((with_reducible refine sp_d (fun h => ?_) (fun h => ?_)) <;> first | contradiction | (subst h; conv => whnf) | (conv => whnf))
    | ((with_reducible refine sp_d' (fun h => ?_) (fun h => ?_)) <;> first | contradiction | (subst h; conv => whnf) | (conv => whnf))
    | ((with_reducible refine sp_eF ?_ ?_); decide; conv => whnf)
    | ((with_reducible refine sp_eT ?_); conv => whnf)
    | ((with_reducible refine sp_e (fun h => ?_) (fun h => ?_)) <;> first | contradiction | (subst h; conv => whnf) | (conv => whnf))
    | ((with_reducible refine sp_e' (fun h => ?_) (fun h => ?_)) <;> first | contradiction | (subst h; conv => whnf) | (conv => whnf))
    | ((with_reducible refine sp_n (fun h => ?_) (fun h => ?_)) <;> first | contradiction | (subst h; conv => whnf) | (conv => whnf))
    | ((with_reducible refine sp_n' (fun h => ?_) (fun h => ?_)) <;> first | contradiction | (subst h; conv => whnf) | (conv => whnf))
    | ((with_reducible refine sp_nb (fun h => ?_) (fun h => ?_)) <;> first | (exact Bool.noConfusion (Eq.trans (Eq.symm h) (show _ = true by with_reducible assumption))) | (exact Bool.noConfusion (Eq.trans (Eq.symm (show _ = false by with_reducible assumption)) h)) | (conv => whnf))
    | ((with_reducible refine sp_nb' (fun h => ?_) (fun h => ?_)) <;> first | (exact Bool.noConfusion (Eq.trans (Eq.symm h) (show _ = true by with_reducible assumption))) | (exact Bool.noConfusion (Eq.trans (Eq.symm (show _ = false by with_reducible assumption)) h)) | (conv => whnf))
    | ((with_reducible refine sp_b (fun h => ?_) (fun h => ?_)) <;> first | (exact Bool.noConfusion (Eq.trans (Eq.symm h) (show _ = true by with_reducible assumption))) | (exact Bool.noConfusion (Eq.trans (Eq.symm (show _ = false by with_reducible assumption)) h)) | (conv => whnf))
    | ((with_reducible refine sp_b' (fun h => ?_) (fun h => ?_)) <;> first | (exact Bool.noConfusion (Eq.trans (Eq.symm h) (show _ = true by with_reducible assumption))) | (exact Bool.noConfusion (Eq.trans (Eq.symm (show _ = false by with_reducible assumption)) h)) | (conv => whnf))
    | (refine ⟨(rfl : nodupB _ = true), rfl, ?_⟩; conv => whnf)
    | (with_reducible refine bnd2 ?_ ?_)
    | (with_reducible refine bnd2' ?_ ?_)
    | (with_reducible refine bndN ?_ ?_)
    | ((with_reducible refine and_of ?_ ?_); conv => whnf)
    | ((with_reducible refine pcI (g := 50) ?_); refine ⟨_, l_ints .., rfl, ?_⟩; rotate_right; conv => whnf)
    | ((with_reducible show Exists _); refine Exists.intro _ (And.intro (l_ints ..) (And.intro rfl ?_)); rotate_right; conv => whnf)
    | ((with_reducible show awpOps _ _ _ _ _ _); conv => whnf)
    | (intro h; conv => whnf))
  all_goals (repeat (clear hK; clear K1))
  all_goals first | (simp [*]; done) | (simp_all; done) | (refine congrArg Dat.bool ?_; rw [Bool.eq_iff_iff]; simp; done) | skip
theorem tr_len (p : V.Prog) (inp : List Int) : ∀ k, (trTo p inp k).length ≤ k
  | 0 => Nat.le_refl _
  | k + 1 => by
    have := tr_len p inp k
    rw [trTo, List.length_append]
    split <;> simp <;> omega
theorem tr_y {p : V.Prog} {inp : List Int} {k : Nat} (h : (decide ((runM p inp k).code = 0) && decide ((runM p inp k).steps < 400)) = true) (h2 : (runM p inp k).pc < p.code.length) : trTo p inp (k + 1) = trTo p inp k ++ [(runM p inp k).pc] := by
  simp only [Bool.and_eq_true, decide_eq_true_eq] at h
  rw [trTo, if_pos (by simp only [goB, Bool.and_eq_true, decide_eq_true_eq]; exact ⟨h.1, h.2, h2⟩)]
theorem tr_n1 {p : V.Prog} {inp : List Int} {k : Nat} (h : (decide ((runM p inp k).code = 0) && decide ((runM p inp k).steps < 400)) = false) : trTo p inp (k + 1) = trTo p inp k := by
  rw [trTo, if_neg, List.append_nil]
  intro hg
  obtain ⟨a, b, _⟩ := go_of hg
  rw [decide_eq_true a, decide_eq_true b] at h; cases h
theorem tr_n2 {p : V.Prog} {inp : List Int} {k : Nat} (h : ¬ (runM p inp k).pc < p.code.length) : trTo p inp (k + 1) = trTo p inp k := by
  rw [trTo, if_neg (fun hg => h (go_of hg).2.2), List.append_nil]
theorem tr_fin {p : V.Prog} {inp : List Int} {k : Nat} {fuel : Int} (hk : k ≤ fuel.toNat) (h : ¬ (k : Int) < fuel) : trTo p inp k = trTo p inp fuel.toNat := by rw [show k = fuel.toNat from by omega]
set_option maxHeartbeats 8000000 in
set_option maxRecDepth 100000 in
theorem i_TraceOf (w mem inn : Int) (c : List V.Ins) (inp : List Int) (fuel : Int) (hp : progP ⟨w, mem, inn, c⟩ = true) (hi : inputsP ⟨w, mem, inn, c⟩ inp = true) (hf : inP fuel 0 400 = true) : CallsF Try.prog 28 [.agg [.dat (.i w), .dat (.i mem), .dat (.i inn), .dat (.seq .inss c)], .dat (.seq .ints inp), .dat (.i fuel)] true (fun res B => res = .row 0 ∧ B = [.row 3 .ints (trTo ⟨w, mem, inn, c⟩ inp fuel.toNat) false]) := by
  refine CallsF.of_awp tauOk mixOk Try.func28 rfl rfl rfl ?_
  conv => whnf
  repeat' (first
    | ((with_reducible refine Alt.l ?_); conv => whnf)
    | ((with_reducible refine fun (K1 : AX → AState → Prop) hK => ?_); conv => whnf)
    | ((with_reducible show K1 _ _); subst hK; conv => whnf)
    | (with_reducible exact rfl)
    | ((with_reducible refine sp_T ?_); conv => whnf)
    | ((with_reducible refine sp_F ?_); conv => whnf)
    | ((with_reducible refine sp_T' ?_); conv => whnf)
    | ((with_reducible refine sp_F' ?_); conv => whnf)
    | ((with_reducible refine sp_dF ?_ ?_); decide; conv => whnf)
    | ((with_reducible refine sp_dT ?_ ?_); decide; conv => whnf)
    | ((with_reducible refine sp_d (fun h => ?_) (fun h => ?_)) <;> first | contradiction | (subst h; conv => whnf) | (conv => whnf))
    | ((with_reducible refine sp_d' (fun h => ?_) (fun h => ?_)) <;> first | contradiction | (subst h; conv => whnf) | (conv => whnf))
    | ((with_reducible refine sp_eF ?_ ?_); decide; conv => whnf)
    | ((with_reducible refine sp_eT ?_); conv => whnf)
    | ((with_reducible refine sp_e (fun h => ?_) (fun h => ?_)) <;> first | contradiction | (subst h; conv => whnf) | (conv => whnf))
    | ((with_reducible refine sp_e' (fun h => ?_) (fun h => ?_)) <;> first | contradiction | (subst h; conv => whnf) | (conv => whnf))
    | ((with_reducible refine sp_n (fun h => ?_) (fun h => ?_)) <;> first | contradiction | (subst h; conv => whnf) | (conv => whnf))
    | ((with_reducible refine sp_n' (fun h => ?_) (fun h => ?_)) <;> first | contradiction | (subst h; conv => whnf) | (conv => whnf))
    | ((with_reducible refine sp_nb (fun h => ?_) (fun h => ?_)) <;> first | (exact Bool.noConfusion (Eq.trans (Eq.symm h) (show _ = true by with_reducible assumption))) | (exact Bool.noConfusion (Eq.trans (Eq.symm (show _ = false by with_reducible assumption)) h)) | (conv => whnf))
    | ((with_reducible refine sp_nb' (fun h => ?_) (fun h => ?_)) <;> first | (exact Bool.noConfusion (Eq.trans (Eq.symm h) (show _ = true by with_reducible assumption))) | (exact Bool.noConfusion (Eq.trans (Eq.symm (show _ = false by with_reducible assumption)) h)) | (conv => whnf))
    | ((with_reducible refine sp_b (fun h => ?_) (fun h => ?_)) <;> first | (exact Bool.noConfusion (Eq.trans (Eq.symm h) (show _ = true by with_reducible assumption))) | (exact Bool.noConfusion (Eq.trans (Eq.symm (show _ = false by with_reducible assumption)) h)) | (conv => whnf))
    | ((with_reducible refine sp_b' (fun h => ?_) (fun h => ?_)) <;> first | (exact Bool.noConfusion (Eq.trans (Eq.symm h) (show _ = true by with_reducible assumption))) | (exact Bool.noConfusion (Eq.trans (Eq.symm (show _ = false by with_reducible assumption)) h)) | (conv => whnf))
    | (refine ⟨(rfl : nodupB _ = true), rfl, ?_⟩; conv => whnf)
    | (with_reducible refine bnd2 ?_ ?_)
    | (with_reducible refine bnd2' ?_ ?_)
    | (with_reducible refine bndN ?_ ?_)
    | ((with_reducible refine and_of ?_ ?_); conv => whnf)
    | (refine Exists.intro ({k : Nat // k ≤ fuel.toNat}) (Exists.intro (fun ⟨k, hk⟩ => mkS Try.f28.ntmps [(1, .dat (.seq .ints inp)), (2, .dat (.i fuel)), (3, .ptr 3 0), (7, .row 107), (8, .ptr 8 0), (9, .dat (.i k))] [(3, .box [.dat (.i w), .dat (.i mem), .dat (.i inn), .dat (.seq .inss c)]), (8, .box [.dat (.i (runM ⟨w, mem, inn, c⟩ inp k).pc), .row 101, .row 102, .row 103, .dat (.i (runM ⟨w, mem, inn, c⟩ inp k).inn), .row 104, .dat (.i (runM ⟨w, mem, inn, c⟩ inp k).code), .dat (.i (runM ⟨w, mem, inn, c⟩ inp k).steps)]), (101, .row 3 .ints (runM ⟨w, mem, inn, c⟩ inp k).regs false), (102, .row 3 .ints (runM ⟨w, mem, inn, c⟩ inp k).mem false), (103, .row 3 .ints (runM ⟨w, mem, inn, c⟩ inp k).stack false), (104, .row 3 .ints (runM ⟨w, mem, inn, c⟩ inp k).out false), (107, .row 3 .ints (trTo ⟨w, mem, inn, c⟩ inp k) false)]) (Exists.intro (fun ⟨k, hk⟩ => fuel.toNat - k) (Exists.intro ⟨0, Nat.zero_le _⟩ (And.intro (SubP.sub (σ := [(3, some 3), (8, some 8), (101, some 21000), (102, some 21001), (103, none), (104, none), (107, none)]) ⟨⟨rfl, rfl, rfl⟩, ⟨(wk_dat ?_), (wk_dat ?_), ⟨rfl, rfl⟩, rfl, ⟨rfl, rfl⟩, (wk_dat ?_), trivial⟩, ⟨⟨(wkC_dat ?_), (wkC_dat ?_), (wkC_dat ?_), (wkC_dat ?_), trivial⟩, ⟨(wkC_dat ?_), rfl, rfl, rfl, (wkC_dat ?_), rfl, (wkC_dat ?_), (wkC_dat ?_), trivial⟩, ⟨⟨rfl, rfl⟩, ?_⟩, ⟨⟨rfl, rfl⟩, ?_⟩, ?_, ?_, ?_, trivial⟩⟩) (fun ⟨k, hk⟩ => ?_))))); rotate_right; conv => whnf)
    | (refine Exists.intro ⟨k + 1, ?_⟩ (And.intro ?_ (SubP.sub (σ := [(3, some 3), (8, some 8), (101, some 43001), (102, some 43002), (103, some 43003), (104, some 43004), (107, some 107)]) ⟨⟨rfl, rfl, rfl⟩, ⟨(wk_dat ?_), (wk_dat ?_), ⟨rfl, rfl⟩, rfl, ⟨rfl, rfl⟩, (wk_dat ?_), trivial⟩, ⟨⟨(wkC_dat ?_), (wkC_dat ?_), (wkC_dat ?_), (wkC_dat ?_), trivial⟩, ⟨(wkC_dat ?_), rfl, rfl, rfl, (wkC_dat ?_), rfl, (wkC_dat ?_), (wkC_dat ?_), trivial⟩, ⟨⟨rfl, rfl⟩, ?_⟩, ⟨⟨rfl, rfl⟩, ?_⟩, ⟨⟨rfl, rfl⟩, ?_⟩, ⟨⟨rfl, rfl⟩, ?_⟩, ⟨⟨rfl, rfl⟩, ?_⟩, trivial⟩⟩)))
    | (refine Exists.intro ⟨k + 1, ?_⟩ (And.intro ?_ (SubP.sub (σ := [(3, some 3), (8, some 8), (101, some 43001), (102, some 43002), (103, some 43003), (104, some 43004), (107, some 39)]) ⟨⟨rfl, rfl, rfl⟩, ⟨(wk_dat ?_), (wk_dat ?_), ⟨rfl, rfl⟩, rfl, ⟨rfl, rfl⟩, (wk_dat ?_), trivial⟩, ⟨⟨(wkC_dat ?_), (wkC_dat ?_), (wkC_dat ?_), (wkC_dat ?_), trivial⟩, ⟨(wkC_dat ?_), rfl, rfl, rfl, (wkC_dat ?_), rfl, (wkC_dat ?_), (wkC_dat ?_), trivial⟩, ⟨⟨rfl, rfl⟩, ?_⟩, ⟨⟨rfl, rfl⟩, ?_⟩, ⟨⟨rfl, rfl⟩, ?_⟩, ⟨⟨rfl, rfl⟩, ?_⟩, ⟨⟨rfl, rfl⟩, ?_⟩, trivial⟩⟩)))
    | ((with_reducible refine pcI (g := 74) ?_); refine ⟨_, i_InputsOk .., rfl, ?_⟩; rotate_right; conv => whnf)
    | ((with_reducible show Exists _); refine Exists.intro _ (And.intro (i_InputsOk ..) (And.intro rfl ?_)); rotate_right; conv => whnf)
    | ((with_reducible refine pcI (g := 67) ?_); refine ⟨_, i_fuelOk .., rfl, ?_⟩; rotate_right; conv => whnf)
    | ((with_reducible show Exists _); refine Exists.intro _ (And.intro (i_fuelOk ..) (And.intro rfl ?_)); rotate_right; conv => whnf)
    | ((with_reducible refine fcI (g := 26) ?_); refine ⟨_, _, i_NewState (hp := by assumption) .., rfl, fun res B hRB => ?_⟩; rotate_right; obtain ⟨rfl, rfl⟩ := hRB; conv => whnf)
    | ((with_reducible show Exists _); refine Exists.intro _ (And.intro (v_NewState (hp := by assumption) ..) (And.intro rfl ?_)); rotate_right; conv => whnf)
    | ((with_reducible refine gcI (g := 77) ?_); refine ⟨_, _, i_moves .., fun res B hRB => ?_⟩; rotate_right; obtain ⟨rfl, rfl⟩ := hRB; conv => whnf)
    | ((with_reducible refine gcI (g := 78) ?_); refine ⟨_, _, i_step (hp := ?_) (hM := ?_) (hin := ?_) (_hiw := ?_) .., fun res B hRB => ?_⟩; rotate_right; obtain ⟨rfl, rfl⟩ := hRB; conv => whnf)
    | ((with_reducible show awpOps _ _ _ _ _ _); conv => whnf)
    | (intro h; conv => whnf))
  all_goals (repeat (clear hK; clear K1))
  all_goals first
    | (with_reducible rfl)
    | (with_reducible assumption)
    | (show Dat.i (runM ⟨w, mem, inn, c⟩ inp (k + 1)).pc = _; rfl)
    | (show Dat.i (runM ⟨w, mem, inn, c⟩ inp 0).pc = _; rfl)
    | (show Dat.i (runM ⟨w, mem, inn, c⟩ inp (k + 1)).inn = _; rfl)
    | (show Dat.i (runM ⟨w, mem, inn, c⟩ inp 0).inn = _; rfl)
    | (show Dat.i (runM ⟨w, mem, inn, c⟩ inp (k + 1)).code = _; rfl)
    | (show Dat.i (runM ⟨w, mem, inn, c⟩ inp 0).code = _; rfl)
    | (show Dat.i (runM ⟨w, mem, inn, c⟩ inp (k + 1)).steps = _; rfl)
    | (show Dat.i (runM ⟨w, mem, inn, c⟩ inp 0).steps = _; rfl)
    | (show (⟨K.ints, (runM ⟨w, mem, inn, c⟩ inp (k + 1)).regs⟩ : (κ : K) × List κ.T) = _; rfl)
    | (show (⟨K.ints, (runM ⟨w, mem, inn, c⟩ inp 0).regs⟩ : (κ : K) × List κ.T) = _; rfl)
    | (show (⟨K.ints, (runM ⟨w, mem, inn, c⟩ inp (k + 1)).mem⟩ : (κ : K) × List κ.T) = _; rfl)
    | (show (⟨K.ints, (runM ⟨w, mem, inn, c⟩ inp 0).mem⟩ : (κ : K) × List κ.T) = _; rfl)
    | (show (⟨K.ints, (runM ⟨w, mem, inn, c⟩ inp (k + 1)).stack⟩ : (κ : K) × List κ.T) = _; rfl)
    | (show (⟨K.ints, (runM ⟨w, mem, inn, c⟩ inp 0).stack⟩ : (κ : K) × List κ.T) = _; rfl)
    | (show (⟨K.ints, (runM ⟨w, mem, inn, c⟩ inp (k + 1)).out⟩ : (κ : K) × List κ.T) = _; rfl)
    | (show (⟨K.ints, (runM ⟨w, mem, inn, c⟩ inp 0).out⟩ : (κ : K) × List κ.T) = _; rfl)
    | exact run_ok hi k
    | exact inp_p hi
    | exact inp_len hi
    | exact inp_w hi
    | exact inp_w hi _ (by with_reducible assumption)
    | exact (rfl : Dat.i ((0 : Nat) : Int) = Dat.int .i64 0)
    | exact absurd ((show inputsP _ _ = false by assumption).symm.trans hi) Bool.noConfusion
    | exact absurd ((show inP _ _ _ = false by assumption).symm.trans hf) Bool.noConfusion
    | (have q := cfuel_b hf; omega)
    | (have q := cfuel_b hf; dsimp only; omega)
    | (have q := cfuel_b hf; exact congrArg (Dat.int .i64) (wrap_id (by omega) (by omega)).symm)
    | exact sig_fin (tr_y (p := ⟨w, mem, inn, c⟩) (inp := inp) (by with_reducible assumption) (by with_reducible assumption))
    | exact sig_fin (tr_n1 (p := ⟨w, mem, inn, c⟩) (inp := inp) (by with_reducible assumption))
    | exact sig_fin (tr_n2 (p := ⟨w, mem, inn, c⟩) (inp := inp) (by with_reducible assumption))
    | (have q := tr_len ⟨w, mem, inn, c⟩ inp k; have q2 := cfuel_b hf; show (_ + 1) * 8 ≤ 140737488355328; omega)
    | (have q := tr_len ⟨w, mem, inn, c⟩ inp k; have q2 := cfuel_b hf; show _ + 1 ≤ maxLen; have hm : maxLen = 9223372036854775807 := rfl; omega)
    | exact row_fin (tr_fin hk (by with_reducible assumption))
    | rfl
    | skip
end Vg

namespace Vg
open Go Go.Proofs
theorem e_ReachedOf (w mem inn : Int) (c : List V.Ins) (hp : progP ⟨w, mem, inn, c⟩ = true) : CallsF Try.prog 32 [.agg [.dat (.i w), .dat (.i mem), .dat (.i inn), .dat (.seq .inss c)]] true (fun res B => (∃ R : List Int, res = .dat (.seq .ints R) ∧ ReachL ⟨w, mem, inn, c⟩ R) ∧ B = []) :=
  (i_ReachedOf w mem inn c hp).toE (Q := fun res => ∃ R : List Int, res = .dat (.seq .ints R) ∧ ReachL ⟨w, mem, inn, c⟩ R) fun res B' ⟨R, h1, h2, h3⟩ => ⟨_, ⟨R, rfl, h3⟩, by subst h1 h2; exact rfl⟩
theorem e_LoopHeads (w mem inn : Int) (c : List V.Ins) (hp : progP ⟨w, mem, inn, c⟩ = true) : CallsF Try.prog 33 [.agg [.dat (.i w), .dat (.i mem), .dat (.i inn), .dat (.seq .inss c)]] true (fun res B => (∃ H : List Int, res = .dat (.seq .ints H) ∧ HeadsI ⟨w, mem, inn, c⟩ H) ∧ B = []) :=
  (i_LoopHeads w mem inn c hp).toE (Q := fun res => ∃ H : List Int, res = .dat (.seq .ints H) ∧ HeadsI ⟨w, mem, inn, c⟩ H) fun res B' ⟨R, h1, h2, h3⟩ => ⟨_, ⟨R, rfl, h3⟩, by subst h1 h2; exact rfl⟩
theorem v_TraceOf (w mem inn : Int) (c : List V.Ins) (inp : List Int) (fuel : Int) (hi : inputsP ⟨w, mem, inn, c⟩ inp = true) (hf : inP fuel 0 400 = true) : CallsV Try.prog 28 [.agg [.dat (.i w), .dat (.i mem), .dat (.i inn), .dat (.seq .inss c)], .dat (.seq .ints inp), .dat (.i fuel)] (.dat (.seq .ints (trTo ⟨w, mem, inn, c⟩ inp fuel.toNat))) :=
  CallsF.toV (i_TraceOf (hp := inp_p hi) (hi := hi) (hf := hf) ..) (fun res B hR => by obtain ⟨rfl, rfl⟩ := hR; exact rfl)
theorem fu64 (b : List Int) : 0 ≤ sizeX b 64 0 60 ∧ sizeX b 64 0 60 ≤ 60 := sizeX_r b 64 (by decide)
theorem fuP (b : List Int) : inP (sizeX b 64 0 60) 0 400 = true := by
  have := fu64 b
  simp [inP]; omega
section
variable {p : V.Prog} {inp R H : List Int} {fuel : Int} {k i : Nat} {j : Int}
theorem st_due (hk : k ≤ fuel.toNat) (h : ¬ (k : Int) < fuel) (hd : decide ((⟨(runM p inp k).pc, (runM p inp k).regs, (runM p inp k).mem, (runM p inp k).stack, (runM p inp k).inn, (runM p inp k).out, (runM p inp k).code, (runM p inp k).steps⟩ : V.State) = ⟨(runM p inp fuel.toNat).pc, (runM p inp fuel.toNat).regs, (runM p inp fuel.toNat).mem, (runM p inp fuel.toNat).stack, (runM p inp fuel.toNat).inn, (runM p inp fuel.toNat).out, (runM p inp fuel.toNat).code, (runM p inp fuel.toNat).steps⟩) = false) : False := by
  obtain rfl : k = fuel.toNat := by omega
  exact of_decide_eq_false hd rfl
theorem st_ok (hi : inputsP p inp = true) (hd : stateP p ⟨(runM p inp k).pc, (runM p inp k).regs, (runM p inp k).mem, (runM p inp k).stack, (runM p inp k).inn, (runM p inp k).out, (runM p inp k).code, (runM p inp k).steps⟩ = false) : False :=
  Bool.noConfusion (hd.symm.trans (mok_st (inp_p hi) (run_ok hi k)))
theorem st_len (hi : inputsP p inp = true) (hk : k ≤ fuel.toNat) (h : ¬ (k : Int) < fuel) (hd : ¬ ((trTo p inp fuel.toNat).length : Int) = (runM p inp k).steps) : False := by
  obtain rfl : k = fuel.toNat := by omega
  exact hd (tr_steps hi _)
theorem ret_y {T : List Int} (hi : (i : Int) < T.length) (h : retTo p T i = true) : Dat.bool (retTo p T (i + 1)) = Dat.bool true := by rw [ret_step hi, h]; rfl
theorem ret_n {T : List Int} (hi : (i : Int) < T.length) (h : retTo p T i = false) : Dat.bool (retTo p T (i + 1)) = Dat.bool ((p.code.getD (T.getD (i : Int).toNat K.ints.dflt).toNat K.inss.dflt).op == 12) := by
  rw [ret_step hi, h, Bool.false_or]; exact congrArg Dat.bool (by rw [Bool.eq_iff_iff, decide_eq_true_iff, beq_iff_eq])
theorem ret_n1 {T : List Int} (hi : (i : Int) < T.length) (h : retTo p T i = false) (h1 : (p.code.getD (T.getD (i : Int).toNat K.ints.dflt).toNat K.inss.dflt).op = 12) : Dat.bool (retTo p T (i + 1)) = Dat.bool true := by
  rw [ret_n hi h, h1]; rfl
theorem ret_n0 {T : List Int} (hi : (i : Int) < T.length) (h : retTo p T i = false) (h1 : ¬ (p.code.getD (T.getD (i : Int).toNat K.ints.dflt).toNat K.inss.dflt).op = 12) : Dat.bool (retTo p T (i + 1)) = Dat.bool false := by
  rw [ret_n hi h]; exact congrArg Dat.bool (beq_false_of_ne h1)
theorem ret_00 (p : V.Prog) (T : List Int) : Dat.bool (retTo p T 0) = Dat.bool false := by simp [retTo]
theorem prev_i (hl : i ≤ 1000) (h : (i : Int) > 0) : IntKind.i64.wrap ((i : Int) - 1) = (i : Int) - 1 := wrap_id (by omega) (by omega)
theorem prev_lo {T : List Int} (hl : T.length ≤ 60) (hi : (i : Int) < T.length) (h : (i : Int) > 0) : 0 ≤ IntKind.i64.wrap ((i : Int) - 1) ∧ IntKind.i64.wrap ((i : Int) - 1) < T.length := by
  rw [wrap_id (by omega) (by omega)]; omega
theorem prev_c (hI : inputsP p inp = true) (hl : (trTo p inp k).length ≤ 60) (hi : (i : Int) < (trTo p inp k).length) (h : (i : Int) > 0) : 0 ≤ (trTo p inp k).getD (IntKind.i64.wrap ((i : Int) - 1)).toNat K.ints.dflt ∧ (trTo p inp k).getD (IntKind.i64.wrap ((i : Int) - 1)).toNat K.ints.dflt < p.code.length := by
  rw [wrap_id (by omega) (by omega), show (i : Int) - 1 = ((i - 1 : Nat) : Int) from by omega]
  exact tr_lo hI (by omega)
theorem prev_next (hI : inputsP p inp = true) (hl : (trTo p inp k).length ≤ 60) (hi : (i : Int) < (trTo p inp k).length) (h : (i : Int) > 0)
    (hr : ¬ (p.code.getD ((trTo p inp k).getD (IntKind.i64.wrap ((i : Int) - 1)).toNat K.ints.dflt).toNat K.inss.dflt).op = 12)
    (hd : decide ((trTo p inp k).getD (i : Int).toNat K.ints.dflt ∈ nextP p ((trTo p inp k).getD (IntKind.i64.wrap ((i : Int) - 1)).toNat K.ints.dflt)) = false) : False := by
  rw [wrap_id (by omega) (by omega)] at hr hd
  obtain ⟨t, rfl⟩ : ∃ t, i = t + 1 := ⟨i - 1, by omega⟩
  have e : (((t + 1 : Nat) : Int) - 1).toNat = t := by omega
  rw [e] at hr hd
  exact of_decide_eq_false hd (tr_next hI hi hr)
theorem tr_in (hI : inputsP p inp = true) (hR : ReachL p R) (hi : (i : Int) < (trTo p inp k).length) (hd : decide ((trTo p inp k).getD (i : Int).toNat K.ints.dflt ∈ R) = false) : False :=
  of_decide_eq_false hd (tr_reach hI hR.ok hi)
structure JI (i : Nat) (j : Int) : Prop where
  lo : -1 ≤ j
  hi : j < i
theorem ji_0 (i : Nat) : JI i ((i : Int) - 1) := ⟨by omega, by omega⟩
theorem ji_s (h : JI i j) (hj : j ≥ 0) : JI i (j - 1) := ⟨by omega, by have := h.hi; omega⟩
theorem sl_eq {T : List Int} (hl : T.length ≤ 60) (hi : (i : Int) < T.length) : (T.take (IntKind.i64.wrap ((i : Int) + 1)).toNat).drop j.toNat = (T.take (i + 1)).drop j.toNat := by
  rw [wrap_id (by omega) (by omega)]; rfl
theorem sl_hi {T : List Int} (hl : T.length ≤ 60) (hi : (i : Int) < T.length) (hj : JI i j) : j ≤ IntKind.i64.wrap ((i : Int) + 1) ∧ IntKind.i64.wrap ((i : Int) + 1) ≤ T.length := by
  have := hj.hi
  rw [wrap_id (by omega) (by omega)]; omega
theorem fo_y {L : List Int} {m : Nat} (h : ((L.take m).any fun x => decide (x ∈ H)) = true) (hm : (m : Int) < L.length) : Dat.bool ((L.take (m + 1)).any fun x => decide (x ∈ H)) = Dat.bool true := by
  have hm' : m < L.length := by omega
  rw [List.take_succ_eq_append_getElem hm', List.any_append, h]; rfl
theorem fo_n {L : List Int} {m : Nat} (h : ((L.take m).any fun x => decide (x ∈ H)) = false) (hm : (m : Int) < L.length) : Dat.bool ((L.take (m + 1)).any fun x => decide (x ∈ H)) = Dat.bool (decide (L.getD (m : Int).toNat K.ints.dflt ∈ H)) := by
  have hm' : m < L.length := by omega
  rw [List.take_succ_eq_append_getElem hm', List.any_append, h, Int.toNat_natCast, getD_atI hm']; simp
theorem fo_w {T : List Int} {m : Nat} (hl : T.length ≤ 60) (hm : (m : Int) < ((T.take (i + 1)).drop j.toNat).length) : Dat.i ((m + 1 : Nat) : Int) = Dat.int .i64 (IntKind.i64.wrap ((m : Int) + 1)) := by
  have h1 : ((T.take (i + 1)).drop j.toNat).length ≤ T.length := by rw [List.length_drop, List.length_take]; omega
  exact congrArg (Dat.int .i64) (wrap_id (by omega) (by omega)).symm
theorem fo_0 (H L : List Int) : Dat.bool ((L.take 0).any fun x => decide (x ∈ H)) = Dat.bool false := by simp
theorem fo_end (hI : inputsP p inp = true) (hH : HeadsI p H) (hj : JI i j) (h0 : j ≥ 0) (hi : (i : Int) < (trTo p inp k).length) (hr : retTo p (trTo p inp k) (i + 1) = false) (he : (trTo p inp k).getD j.toNat K.ints.dflt = (trTo p inp k).getD (i : Int).toNat K.ints.dflt) {m : Nat}
    (hm : ¬ (m : Int) < (((trTo p inp k).take (i + 1)).drop j.toNat).length) (hf : (((((trTo p inp k).take (i + 1)).drop j.toNat).take m).any fun x => decide (x ∈ H)) = false) : False := by
  have h1 := hj.hi
  rw [List.take_of_length_le (by omega)] at hf
  rw [Int.toNat_natCast] at he
  rw [tr_found hI hH (by omega) hi hr he] at hf; cases hf
end
theorem trF (w mem inn : Int) (code : List V.Ins) (b : List Int) : (trTo ⟨w, mem, inn, code⟩ (givL w b 60 inn.toNat) (sizeX b 64 0 60).toNat).length ≤ 60 := by
  have := tr_len ⟨w, mem, inn, code⟩ (givL w b 60 inn.toNat) (sizeX b 64 0 60).toNat
  have := fu64 b
  omega
set_option maxHeartbeats 16000000 in
set_option maxRecDepth 100000 in
theorem law_FR (b : List Int) : CallsV Try.prog 5 [.dat (.seq .bytes b)] (.dat (.bool true)) := by
  refine CallsV.of_awp tauOk mixOk Try.func5 rfl rfl rfl ?_
  conv => whnf
  repeat' (first
    | ((with_reducible refine Alt.l ?_); conv => whnf)
    | ((with_reducible refine fun (K1 : AX → AState → Prop) hK => ?_); conv => whnf)
    | ((with_reducible show K1 _ _); subst hK; conv => whnf)
    | (with_reducible exact rfl)
    | ((with_reducible refine sp_T ?_); conv => whnf)
    | ((with_reducible refine sp_F ?_); conv => whnf)
    | ((with_reducible refine sp_T' ?_); conv => whnf)
    | ((with_reducible refine sp_F' ?_); conv => whnf)
    | ((with_reducible refine sp_dF ?_ ?_); decide; conv => whnf)
    | ((with_reducible refine sp_dT ?_ ?_); decide; conv => whnf)
    | ((with_reducible refine sp_d (fun h => ?_) (fun h => ?_)) <;> first | contradiction | (subst h; conv => whnf) | (conv => whnf))
    | ((with_reducible refine sp_d' (fun h => ?_) (fun h => ?_)) <;> first | contradiction | (subst h; conv => whnf) | (conv => whnf))
    | ((with_reducible refine sp_eF ?_ ?_); decide; conv => whnf)
    | ((with_reducible refine sp_eT ?_); conv => whnf)
    | ((with_reducible refine sp_e (fun h => ?_) (fun h => ?_)) <;> first | contradiction | (subst h; conv => whnf) | (conv => whnf))
    | ((with_reducible refine sp_e' (fun h => ?_) (fun h => ?_)) <;> first | contradiction | (subst h; conv => whnf) | (conv => whnf))
    | ((with_reducible refine sp_n (fun h => ?_) (fun h => ?_)) <;> first | contradiction | (subst h; conv => whnf) | (conv => whnf))
    | ((with_reducible refine sp_n' (fun h => ?_) (fun h => ?_)) <;> first | contradiction | (subst h; conv => whnf) | (conv => whnf))
    | ((with_reducible refine sp_nb (fun h => ?_) (fun h => ?_)) <;> first | (exact Bool.noConfusion (Eq.trans (Eq.symm h) (show _ = true by with_reducible assumption))) | (exact Bool.noConfusion (Eq.trans (Eq.symm (show _ = false by with_reducible assumption)) h)) | (conv => whnf))
    | ((with_reducible refine sp_nb' (fun h => ?_) (fun h => ?_)) <;> first | (exact Bool.noConfusion (Eq.trans (Eq.symm h) (show _ = true by with_reducible assumption))) | (exact Bool.noConfusion (Eq.trans (Eq.symm (show _ = false by with_reducible assumption)) h)) | (conv => whnf))
    | ((with_reducible refine sp_b (fun h => ?_) (fun h => ?_)) <;> first | (exact Bool.noConfusion (Eq.trans (Eq.symm h) (show _ = true by with_reducible assumption))) | (exact Bool.noConfusion (Eq.trans (Eq.symm (show _ = false by with_reducible assumption)) h)) | (conv => whnf))
    | ((with_reducible refine sp_b' (fun h => ?_) (fun h => ?_)) <;> first | (exact Bool.noConfusion (Eq.trans (Eq.symm h) (show _ = true by with_reducible assumption))) | (exact Bool.noConfusion (Eq.trans (Eq.symm (show _ = false by with_reducible assumption)) h)) | (conv => whnf))
    | (refine ⟨(rfl : nodupB _ = true), rfl, ?_⟩; conv => whnf)
    | (with_reducible refine bnd2 ?_ ?_)
    | (with_reducible refine bnd2' ?_ ?_)
    | (with_reducible refine bndN ?_ ?_)
    | ((with_reducible refine and_of ?_ ?_); conv => whnf)
    | (refine Exists.intro ({m : Nat // m ≤ ((((trTo ⟨w, mem, inn, code⟩ (givL w b 60 inn.toNat) (sizeX b 64 0 60).toNat)).take (i + 1)).drop j.toNat).length}) (Exists.intro (fun ⟨m, hm⟩ => mkS Try.f5.ntmps [(3, .ptr 3 0), (8, .dat (.seq .ints (trTo ⟨w, mem, inn, code⟩ (givL w b 60 inn.toNat) (sizeX b 64 0 60).toNat))), (10, .dat (.seq .ints H)), (67, .dat (.seq .ints (trTo ⟨w, mem, inn, code⟩ (givL w b 60 inn.toNat) (sizeX b 64 0 60).toNat))), (68, .dat (.i ((trTo ⟨w, mem, inn, code⟩ (givL w b 60 inn.toNat) (sizeX b 64 0 60).toNat)).length)), (69, .dat (.i i)), (9, .dat (.seq .ints R)), (11, .dat (.bool (retTo ⟨w, mem, inn, code⟩ (trTo ⟨w, mem, inn, code⟩ (givL w b 60 inn.toNat) (sizeX b 64 0 60).toNat) (i + 1)))), (12, .dat (.i i)), (13, .dat (.i (((trTo ⟨w, mem, inn, code⟩ (givL w b 60 inn.toNat) (sizeX b 64 0 60).toNat)).getD (i : Int).toNat K.ints.dflt))), (14, .dat (.i j)), (15, .dat (.bool ((((((trTo ⟨w, mem, inn, code⟩ (givL w b 60 inn.toNat) (sizeX b 64 0 60).toNat)).take (i + 1)).drop j.toNat).take m).any fun x => decide (x ∈ H)))), (146, .dat (.seq .ints ((((trTo ⟨w, mem, inn, code⟩ (givL w b 60 inn.toNat) (sizeX b 64 0 60).toNat)).take (i + 1)).drop j.toNat))), (147, .dat (.i ((((trTo ⟨w, mem, inn, code⟩ (givL w b 60 inn.toNat) (sizeX b 64 0 60).toNat)).take (i + 1)).drop j.toNat).length)), (148, .dat (.i m))] [(3, .box [.dat (.i w), .dat (.i mem), .dat (.i inn), .dat (.seq .inss code)])]) (Exists.intro (fun ⟨m, hm⟩ => ((((trTo ⟨w, mem, inn, code⟩ (givL w b 60 inn.toNat) (sizeX b 64 0 60).toNat)).take (i + 1)).drop j.toNat).length - m) (Exists.intro ⟨0, Nat.zero_le _⟩ (And.intro (SubP.sub (σ := [(3, some 3)]) ⟨⟨rfl, rfl, rfl⟩, ⟨⟨rfl, rfl⟩, (wk_dat ?_), (wk_dat ?_), (wk_dat ?_), (wk_dat ?_), (wk_dat ?_), (wk_dat ?_), (wk_dat ?_), (wk_dat ?_), (wk_dat ?_), (wk_dat ?_), (wk_dat ?_), (wk_dat ?_), (wk_dat ?_), (wk_dat ?_), trivial⟩, ⟨⟨(wkC_dat ?_), (wkC_dat ?_), (wkC_dat ?_), (wkC_dat ?_), trivial⟩, trivial⟩⟩) (fun ⟨m, hm⟩ => ?_))))); rotate_right; conv => whnf)
    | (refine Exists.intro (⟨m + 1, ?_⟩ : {m : Nat // m ≤ ((((trTo ⟨w, mem, inn, code⟩ (givL w b 60 inn.toNat) (sizeX b 64 0 60).toNat)).take (i + 1)).drop j.toNat).length}) (And.intro ?_ (SubP.sub (σ := [(3, some 3)]) ⟨⟨rfl, rfl, rfl⟩, ⟨⟨rfl, rfl⟩, (wk_dat ?_), (wk_dat ?_), (wk_dat ?_), (wk_dat ?_), (wk_dat ?_), (wk_dat ?_), (wk_dat ?_), (wk_dat ?_), (wk_dat ?_), (wk_dat ?_), (wk_dat ?_), (wk_dat ?_), (wk_dat ?_), (wk_dat ?_), trivial⟩, ⟨⟨(wkC_dat ?_), (wkC_dat ?_), (wkC_dat ?_), (wkC_dat ?_), trivial⟩, trivial⟩⟩)))
    | (refine Exists.intro ({j : Int // JI i j}) (Exists.intro (fun ⟨j, hj⟩ => mkS Try.f5.ntmps [(3, .ptr 3 0), (8, .dat (.seq .ints (trTo ⟨w, mem, inn, code⟩ (givL w b 60 inn.toNat) (sizeX b 64 0 60).toNat))), (10, .dat (.seq .ints H)), (67, .dat (.seq .ints (trTo ⟨w, mem, inn, code⟩ (givL w b 60 inn.toNat) (sizeX b 64 0 60).toNat))), (68, .dat (.i ((trTo ⟨w, mem, inn, code⟩ (givL w b 60 inn.toNat) (sizeX b 64 0 60).toNat)).length)), (69, .dat (.i i)), (9, .dat (.seq .ints R)), (11, .dat (.bool (retTo ⟨w, mem, inn, code⟩ (trTo ⟨w, mem, inn, code⟩ (givL w b 60 inn.toNat) (sizeX b 64 0 60).toNat) (i + 1)))), (12, .dat (.i i)), (13, .dat (.i (((trTo ⟨w, mem, inn, code⟩ (givL w b 60 inn.toNat) (sizeX b 64 0 60).toNat)).getD (i : Int).toNat K.ints.dflt))), (14, .dat (.i j))] [(3, .box [.dat (.i w), .dat (.i mem), .dat (.i inn), .dat (.seq .inss code)])]) (Exists.intro (fun ⟨j, hj⟩ => (j + 1).toNat) (Exists.intro ⟨(i : Int) - 1, ji_0 i⟩ (And.intro (SubP.sub (σ := [(3, some 3)]) ⟨⟨rfl, rfl, rfl⟩, ⟨⟨rfl, rfl⟩, (wk_dat ?_), (wk_dat ?_), (wk_dat ?_), (wk_dat ?_), (wk_dat ?_), (wk_dat ?_), (wk_dat ?_), (wk_dat ?_), (wk_dat ?_), (wk_dat ?_), trivial⟩, ⟨⟨(wkC_dat ?_), (wkC_dat ?_), (wkC_dat ?_), (wkC_dat ?_), trivial⟩, trivial⟩⟩) (fun ⟨j, hj⟩ => ?_))))); rotate_right; conv => whnf)
    | (refine Exists.intro (⟨j - 1, ?_⟩ : {j : Int // JI i j}) (And.intro ?_ (SubP.sub (σ := [(3, some 3)]) ⟨⟨rfl, rfl, rfl⟩, ⟨⟨rfl, rfl⟩, (wk_dat ?_), (wk_dat ?_), (wk_dat ?_), (wk_dat ?_), (wk_dat ?_), (wk_dat ?_), (wk_dat ?_), (wk_dat ?_), (wk_dat ?_), (wk_dat ?_), trivial⟩, ⟨⟨(wkC_dat ?_), (wkC_dat ?_), (wkC_dat ?_), (wkC_dat ?_), trivial⟩, trivial⟩⟩)))
    | (refine Exists.intro ({i : Nat // i ≤ ((trTo ⟨w, mem, inn, code⟩ (givL w b 60 inn.toNat) (sizeX b 64 0 60).toNat)).length}) (Exists.intro (fun ⟨i, hi⟩ => mkS Try.f5.ntmps [(3, .ptr 3 0), (8, .dat (.seq .ints (trTo ⟨w, mem, inn, code⟩ (givL w b 60 inn.toNat) (sizeX b 64 0 60).toNat))), (10, .dat (.seq .ints H)), (67, .dat (.seq .ints (trTo ⟨w, mem, inn, code⟩ (givL w b 60 inn.toNat) (sizeX b 64 0 60).toNat))), (68, .dat (.i ((trTo ⟨w, mem, inn, code⟩ (givL w b 60 inn.toNat) (sizeX b 64 0 60).toNat)).length)), (69, .dat (.i i)), (9, .dat (.seq .ints R)), (11, .dat (.bool (retTo ⟨w, mem, inn, code⟩ (trTo ⟨w, mem, inn, code⟩ (givL w b 60 inn.toNat) (sizeX b 64 0 60).toNat) i)))] [(3, .box [.dat (.i w), .dat (.i mem), .dat (.i inn), .dat (.seq .inss code)])]) (Exists.intro (fun ⟨i, hi⟩ => ((trTo ⟨w, mem, inn, code⟩ (givL w b 60 inn.toNat) (sizeX b 64 0 60).toNat)).length - i) (Exists.intro ⟨0, Nat.zero_le _⟩ (And.intro (SubP.sub (σ := [(3, some 3)]) ⟨⟨rfl, rfl, rfl⟩, ⟨⟨rfl, rfl⟩, (wk_dat ?_), (wk_dat ?_), (wk_dat ?_), (wk_dat ?_), (wk_dat ?_), (wk_dat ?_), (wk_dat ?_), trivial⟩, ⟨⟨(wkC_dat ?_), (wkC_dat ?_), (wkC_dat ?_), (wkC_dat ?_), trivial⟩, trivial⟩⟩) (fun ⟨i, hi⟩ => ?_))))); rotate_right; conv => whnf)
    | (refine Exists.intro (⟨i + 1, ?_⟩ : {i : Nat // i ≤ ((trTo ⟨w, mem, inn, code⟩ (givL w b 60 inn.toNat) (sizeX b 64 0 60).toNat)).length}) (And.intro ?_ (SubP.sub (σ := [(3, some 3)]) ⟨⟨rfl, rfl, rfl⟩, ⟨⟨rfl, rfl⟩, (wk_dat ?_), (wk_dat ?_), (wk_dat ?_), (wk_dat ?_), (wk_dat ?_), (wk_dat ?_), (wk_dat ?_), trivial⟩, ⟨⟨(wkC_dat ?_), (wkC_dat ?_), (wkC_dat ?_), (wkC_dat ?_), trivial⟩, trivial⟩⟩)))
    | (refine Exists.intro ({k : Nat // k ≤ (sizeX b 64 0 60).toNat}) (Exists.intro (fun ⟨k, hk⟩ => mkS Try.f5.ntmps [(3, .ptr 3 0), (4, .dat (.seq .ints (givL w b 60 inn.toNat))), (5, .dat (.i (sizeX b 64 0 60))), (6, .ptr 6 0), (7, .dat (.i k))] [(3, .box [.dat (.i w), .dat (.i mem), .dat (.i inn), .dat (.seq .inss code)]), (6, .box [.dat (.i ((runM ⟨w, mem, inn, code⟩ (givL w b 60 inn.toNat) k)).pc), .dat (.seq .ints ((runM ⟨w, mem, inn, code⟩ (givL w b 60 inn.toNat) k)).regs), .dat (.seq .ints ((runM ⟨w, mem, inn, code⟩ (givL w b 60 inn.toNat) k)).mem), .dat (.seq .ints ((runM ⟨w, mem, inn, code⟩ (givL w b 60 inn.toNat) k)).stack), .dat (.i ((runM ⟨w, mem, inn, code⟩ (givL w b 60 inn.toNat) k)).inn), .dat (.seq .ints ((runM ⟨w, mem, inn, code⟩ (givL w b 60 inn.toNat) k)).out), .dat (.i ((runM ⟨w, mem, inn, code⟩ (givL w b 60 inn.toNat) k)).code), .dat (.i ((runM ⟨w, mem, inn, code⟩ (givL w b 60 inn.toNat) k)).steps)])]) (Exists.intro (fun ⟨k, hk⟩ => (sizeX b 64 0 60).toNat - k) (Exists.intro ⟨0, Nat.zero_le _⟩ (And.intro (SubP.sub (σ := [(3, some 3), (6, some 6)]) ⟨⟨rfl, rfl, rfl⟩, ⟨⟨rfl, rfl⟩, (wk_dat ?_), (wk_dat ?_), ⟨rfl, rfl⟩, (wk_dat ?_), trivial⟩, ⟨⟨(wkC_dat ?_), (wkC_dat ?_), (wkC_dat ?_), (wkC_dat ?_), trivial⟩, ⟨(wkC_dat ?_), (wkC_dat ?_), (wkC_dat ?_), (wkC_dat ?_), (wkC_dat ?_), (wkC_dat ?_), (wkC_dat ?_), (wkC_dat ?_), trivial⟩, trivial⟩⟩) (fun ⟨k, hk⟩ => ?_))))); rotate_right; conv => whnf)
    | (refine Exists.intro (⟨k + 1, ?_⟩ : {k : Nat // k ≤ (sizeX b 64 0 60).toNat}) (And.intro ?_ (SubP.sub (σ := [(3, some 3), (6, some 6)]) ⟨⟨rfl, rfl, rfl⟩, ⟨⟨rfl, rfl⟩, (wk_dat ?_), (wk_dat ?_), ⟨rfl, rfl⟩, (wk_dat ?_), trivial⟩, ⟨⟨(wkC_dat ?_), (wkC_dat ?_), (wkC_dat ?_), (wkC_dat ?_), trivial⟩, ⟨(wkC_dat ?_), (wkC_dat ?_), (wkC_dat ?_), (wkC_dat ?_), (wkC_dat ?_), (wkC_dat ?_), (wkC_dat ?_), (wkC_dat ?_), trivial⟩, trivial⟩⟩)))
    | ((with_reducible refine fcI (g := 9) ?_); refine ⟨_, _, c_GiveProgram (hn := ?_) (hl := by with_reducible assumption) .., rfl, fun res B hRB => ?_⟩; rotate_right; obtain ⟨⟨w, mem, inn, code, rfl, hp⟩, rfl⟩ := hRB; conv => whnf)
    | ((with_reducible refine pcI (g := 12) ?_); refine ⟨_, v_GiveInputs (hn := ?_) (hl := by assumption) (h1 := ?_) .., rfl, ?_⟩; rotate_right; conv => whnf)
    | ((with_reducible show Exists _); refine Exists.intro _ (And.intro (v_GiveInputs (hn := ?_) (hl := by assumption) (h1 := ?_) ..) (And.intro rfl ?_)); rotate_right; conv => whnf)
    | ((with_reducible refine pcI (g := 13) ?_); refine ⟨_, c_GiveSize (hn := ?_) (h1 := ?_) (h2 := ?_) (h3 := ?_) (hl := ?_) .., rfl, ?_⟩; rotate_right; conv => whnf)
    | ((with_reducible show Exists _); refine Exists.intro _ (And.intro (c_GiveSize (hn := ?_) (h1 := ?_) (h2 := ?_) (h3 := ?_) (hl := ?_) ..) (And.intro rfl ?_)); rotate_right; conv => whnf)
    | ((with_reducible refine pcI (g := 26) ?_); refine ⟨_, v_NewState (hp := by assumption) .., rfl, ?_⟩; rotate_right; conv => whnf)
    | ((with_reducible show Exists _); refine Exists.intro _ (And.intro (v_NewState (hp := by assumption) ..) (And.intro rfl ?_)); rotate_right; conv => whnf)
    | ((with_reducible refine pcI (g := 27) ?_); refine ⟨_, v_StepState (hM := ?_) (hi := ?_) .., rfl, ?_⟩; rotate_right; conv => whnf)
    | ((with_reducible show Exists _); refine Exists.intro _ (And.intro (v_StepState (hM := ?_) (hi := ?_) ..) (And.intro rfl ?_)); rotate_right; conv => whnf)
    | ((with_reducible refine pcI (g := 28) ?_); refine ⟨_, v_TraceOf (hi := ?_) (hf := ?_) .., rfl, ?_⟩; rotate_right; conv => whnf)
    | ((with_reducible show Exists _); refine Exists.intro _ (And.intro (v_TraceOf (hi := ?_) (hf := ?_) ..) (And.intro rfl ?_)); rotate_right; conv => whnf)
    | ((with_reducible refine pcI (g := 29) ?_); refine ⟨_, l_states .., rfl, ?_⟩; rotate_right; conv => whnf)
    | ((with_reducible show Exists _); refine Exists.intro _ (And.intro (l_states ..) (And.intro rfl ?_)); rotate_right; conv => whnf)
    | ((with_reducible show Exists _); refine Exists.intro _ (And.intro (i_RunProgram1 (hp := by assumption) (hi := by assumption) (h0 := by assumption) (h1 := by assumption) ..) (And.intro rfl ?_)); rotate_right; conv => whnf)
    | ((with_reducible refine pcI (g := 30) ?_); refine ⟨_, i_RunProgram (hi := ?_) (h0 := ?_) (h1 := ?_) .., rfl, ?_⟩; rotate_right; conv => whnf)
    | ((with_reducible show Exists _); refine Exists.intro _ (And.intro (i_RunProgram (hi := ?_) (h0 := ?_) (h1 := ?_) ..) (And.intro rfl ?_)); rotate_right; conv => whnf)
    | ((with_reducible refine pcI (g := 31) ?_); refine ⟨_, ip_StateOk .., rfl, ?_⟩; rotate_right; conv => whnf)
    | ((with_reducible show Exists _); refine Exists.intro _ (And.intro (ip_StateOk ..) (And.intro rfl ?_)); rotate_right; conv => whnf)
    | ((with_reducible refine pcI (g := 31) ?_); refine ⟨_, i_StateOk .., rfl, ?_⟩; rotate_right; conv => whnf)
    | ((with_reducible show Exists _); refine Exists.intro _ (And.intro (i_StateOk ..) (And.intro rfl ?_)); rotate_right; conv => whnf)
    | ((with_reducible refine fcI (g := 32) ?_); refine ⟨_, _, e_ReachedOf (hp := by with_reducible assumption) .., rfl, fun res B hRB => ?_⟩; rotate_right; obtain ⟨⟨R, rfl, hR⟩, rfl⟩ := hRB; conv => whnf)
    | ((with_reducible refine fcI (g := 33) ?_); refine ⟨_, _, e_LoopHeads (hp := by with_reducible assumption) .., rfl, fun res B hRB => ?_⟩; rotate_right; obtain ⟨⟨H, rfl, hH⟩, rfl⟩ := hRB; conv => whnf)
    | ((with_reducible refine pcI (g := 34) ?_); refine ⟨_, l_has .., rfl, ?_⟩; rotate_right; conv => whnf)
    | ((with_reducible show Exists _); refine Exists.intro _ (And.intro (l_has ..) (And.intro rfl ?_)); rotate_right; conv => whnf)
    | ((with_reducible refine pcI (g := 35) ?_); refine ⟨_, i_NextOf .., rfl, ?_⟩; rotate_right; conv => whnf)
    | ((with_reducible show Exists _); refine Exists.intro _ (And.intro (i_NextOf ..) (And.intro rfl ?_)); rotate_right; conv => whnf)
    | ((with_reducible show awpOps _ _ _ _ _ _); conv => whnf)
    | (intro h; conv => whnf))
  all_goals (repeat (clear hK; clear K1))
  all_goals first
    | (with_reducible assumption)
    | decide
    | exact giv_ok b 60 hp
    | exact run_ok (giv_ok b 60 hp) k
    | exact fuP b
    | exact (fu64 b).1
    | (have q := fu64 b; omega)
    | (have q := prog_in hp; simp only at q; omega)
    | (show Dat.i (runM ⟨w, mem, inn, code⟩ (givL w b 60 inn.toNat) (k + 1)).pc = _; rfl)
    | (show Dat.i (runM ⟨w, mem, inn, code⟩ (givL w b 60 inn.toNat) 0).pc = _; rfl)
    | (show Dat.i (runM ⟨w, mem, inn, code⟩ (givL w b 60 inn.toNat) (k + 1)).inn = _; rfl)
    | (show Dat.i (runM ⟨w, mem, inn, code⟩ (givL w b 60 inn.toNat) 0).inn = _; rfl)
    | (show Dat.i (runM ⟨w, mem, inn, code⟩ (givL w b 60 inn.toNat) (k + 1)).code = _; rfl)
    | (show Dat.i (runM ⟨w, mem, inn, code⟩ (givL w b 60 inn.toNat) 0).code = _; rfl)
    | (show Dat.i (runM ⟨w, mem, inn, code⟩ (givL w b 60 inn.toNat) (k + 1)).steps = _; rfl)
    | (show Dat.i (runM ⟨w, mem, inn, code⟩ (givL w b 60 inn.toNat) 0).steps = _; rfl)
    | (show Dat.seq .ints (runM ⟨w, mem, inn, code⟩ (givL w b 60 inn.toNat) (k + 1)).regs = _; rfl)
    | (show Dat.seq .ints (runM ⟨w, mem, inn, code⟩ (givL w b 60 inn.toNat) 0).regs = _; rfl)
    | (show Dat.seq .ints (runM ⟨w, mem, inn, code⟩ (givL w b 60 inn.toNat) (k + 1)).mem = _; rfl)
    | (show Dat.seq .ints (runM ⟨w, mem, inn, code⟩ (givL w b 60 inn.toNat) 0).mem = _; rfl)
    | (show Dat.seq .ints (runM ⟨w, mem, inn, code⟩ (givL w b 60 inn.toNat) (k + 1)).stack = _; rfl)
    | (show Dat.seq .ints (runM ⟨w, mem, inn, code⟩ (givL w b 60 inn.toNat) 0).stack = _; rfl)
    | (show Dat.seq .ints (runM ⟨w, mem, inn, code⟩ (givL w b 60 inn.toNat) (k + 1)).out = _; rfl)
    | (show Dat.seq .ints (runM ⟨w, mem, inn, code⟩ (givL w b 60 inn.toNat) 0).out = _; rfl)
    | exact (st_due hk (by with_reducible assumption) (by with_reducible assumption)).elim
    | exact (st_ok (giv_ok b 60 hp) (by with_reducible assumption)).elim
    | exact (st_len (giv_ok b 60 hp) hk (by with_reducible assumption) (by with_reducible assumption)).elim
    | exact ret_00 _ _
    | exact (tr_lo (giv_ok b 60 hp) (by with_reducible assumption)).1
    | exact (tr_lo (giv_ok b 60 hp) (by with_reducible assumption)).2
    | exact (prev_lo (trF w mem inn code b) (by with_reducible assumption) (by with_reducible assumption)).1
    | exact (prev_lo (trF w mem inn code b) (by with_reducible assumption) (by with_reducible assumption)).2
    | exact (prev_c (giv_ok b 60 hp) (trF w mem inn code b) (by with_reducible assumption) (by with_reducible assumption)).1
    | exact (prev_c (giv_ok b 60 hp) (trF w mem inn code b) (by with_reducible assumption) (by with_reducible assumption)).2
    | exact (prev_next (giv_ok b 60 hp) (trF w mem inn code b) (by with_reducible assumption) (by with_reducible assumption) (by with_reducible assumption) (by with_reducible assumption)).elim
    | exact (tr_in (giv_ok b 60 hp) hR (by with_reducible assumption) (by with_reducible assumption)).elim
    | (exfalso; have q := (tr_lo (giv_ok b 60 hp) (by with_reducible assumption)); simp only at q; omega)
    | exact ret_y (by with_reducible assumption) (by with_reducible assumption)
    | exact ret_n (by with_reducible assumption) (by with_reducible assumption)
    | exact ret_n1 (by with_reducible assumption) (by with_reducible assumption) (by with_reducible assumption)
    | exact ret_n0 (by with_reducible assumption) (by with_reducible assumption) (by with_reducible assumption)
    | exact ji_s hj (by with_reducible assumption)
    | exact fo_0 _ _
    | exact fo_y (by with_reducible assumption) (by with_reducible assumption)
    | exact fo_n (by with_reducible assumption) (by with_reducible assumption)
    | exact (fo_end (giv_ok b 60 hp) hH hj (by with_reducible assumption) (by with_reducible assumption) (by with_reducible assumption) (by with_reducible assumption) (by with_reducible assumption) (by with_reducible assumption)).elim
    | exact (sl_hi (trF w mem inn code b) (by with_reducible assumption) hj).1
    | exact (sl_hi (trF w mem inn code b) (by with_reducible assumption) hj).2
    | exact congrArg (Dat.seq .ints) (sl_eq (trF w mem inn code b) (by with_reducible assumption)).symm
    | exact congrArg (fun l : List Int => Dat.i l.length) (sl_eq (trF w mem inn code b) (by with_reducible assumption)).symm
    | exact congrArg (Dat.int .i64) (wrap_succ (by with_reducible assumption) (by with_reducible assumption)).symm
    | exact fo_w (trF w mem inn code b) (by with_reducible assumption)
    | (have q := trF w mem inn code b; exact congrArg (Dat.int .i64) (wrap_id (by omega) (by omega)).symm)
    | (have q := trF w mem inn code b; have q2 := hj.lo; have q3 := hj.hi; exact congrArg (Dat.int .i64) (wrap_id (by omega) (by omega)).symm)
    | (have q := fu64 b; exact congrArg (Dat.int .i64) (wrap_id (by omega) (by omega)).symm)
    | (have q := trF w mem inn code b; have q2 := hj.lo; have q3 := hj.hi; omega)
    | exact rfl
    | omega
    | (dsimp only; omega)
    | skip
end Vg

