/- Mutants in plain words: each is in order and differs in one instruction; kills and runs. No condition. -/
import Derived.Test.YtnjkencoohaheaaScore
import Derived.Test.YtnjkencoohaheaaGive
namespace Vg
open Go Go.Proofs
def diffTo (a b : List V.Ins) : Nat → Nat
  | 0 => 0
  | k + 1 => diffTo a b k + if a.getD k K.inss.dflt = b.getD k K.inss.dflt then 0 else 1
theorem diff_le (a b : List V.Ins) (k : Nat) : diffTo a b k ≤ k := by
  induction k with
  | zero => exact Nat.le_refl _
  | succ k ih => simp only [diffTo]; split <;> omega
theorem getD_set_same {c : List V.Ins} {j : Nat} {y : V.Ins} (hj : j < c.length) : (c.set j y).getD j K.inss.dflt = y := by
  simp [List.getD_eq_getElem?_getD, hj]
theorem getD_set_ne {c : List V.Ins} {i j : Nat} {y : V.Ins} (h : j ≠ i) : (c.set j y).getD i K.inss.dflt = c.getD i K.inss.dflt := by
  simp [List.getD_eq_getElem?_getD, h]
theorem diff_set {c : List V.Ins} {j : Nat} {y : V.Ins} (hj : j < c.length) (hy : y ≠ c.getD j K.inss.dflt) (n : Nat) : diffTo (c.set j y) c n = if j < n then 1 else 0 := by
  induction n with
  | zero => rfl
  | succ n ih =>
    simp only [diffTo, ih]
    by_cases e : j = n
    · subst e
      rw [getD_set_same hj, if_neg hy, if_neg (Nat.lt_irrefl _), if_pos (Nat.lt_succ_self _)]
    · rw [getD_set_ne e, if_pos rfl]
      by_cases h : j < n
      · rw [if_pos h, if_pos (by omega)]
      · rw [if_neg h, if_neg (by omega)]
theorem ofInt_s2 {a : Int} (h0 : 0 ≤ a) (h1 : a < 9223372036854775808) : (BitVec.ofInt IntKind.i64.bits a).toNat = a.toNat := by
  have hb : IntKind.i64.bits = 64 := rfl
  rw [BitVec.toNat_ofInt, hb]
  have : a % ((2 ^ 64 : Nat) : Int) = a := Int.emod_eq_of_lt h0 (by omega)
  rw [this]
/-- the next word is another one -/
theorem word_next {w b : Int} (hw : inP w 1 16 = true) (hb : wordP w b = true) : wordOfP w (IntKind.i64.wrap (b + 1)) ≠ b := by
  obtain ⟨_, b0, b1⟩ := word_lo hb
  have F := wf hw
  have h2 := F.s2
  have h3 := F.s3
  intro e
  unfold wordOfP at e
  rw [if_pos hw, wrap_id (n := b + 1) (by omega) (by omega), BitVec.toNat_and, ofInt_s2 (a := b + 1) (by omega) (by omega), ofInt_s2 (a := 2 ^ w.toNat - 1) (by omega) (by omega)] at e
  have hle : ((b + 1).toNat &&& ((2 : Int) ^ w.toNat - 1).toNat) ≤ ((2 : Int) ^ w.toNat - 1).toNat := Nat.and_le_right
  rw [wrap_id (by omega) (by omega)] at e
  have hm : (((2 : Int) ^ w.toNat - 1).toNat) % 2 = 1 := by
    have hw' : 1 ≤ w.toNat := by simp [inP] at hw; omega
    obtain ⟨k, hk⟩ : ∃ k, w.toNat = k + 1 := ⟨w.toNat - 1, by omega⟩
    have e2 : (2 : Int) ^ w.toNat = 2 * 2 ^ k := by rw [hk, Int.pow_succ]; omega
    have e3 : (0 : Int) < 2 ^ k := Int.pow_pos (by decide)
    omega
  have hp := Nat.and_mod_two_eq_one (a := (b + 1).toNat) (b := ((2 : Int) ^ w.toNat - 1).toNat)
  generalize ((b + 1).toNat &&& ((2 : Int) ^ w.toNat - 1).toNat) = m at e hp
  generalize ((2 : Int) ^ w.toNat - 1).toNat = m2 at hm hp
  by_cases h : b % 2 = 1
  · have : ¬ m % 2 = 1 := fun h' => by have := (hp.1 h').1; omega
    omega
  · have : m % 2 = 1 := hp.2 ⟨by omega, hm⟩
    omega
structure MutI (p q : V.Prog) : Prop where
  ok : progP q = true
  w : q.w = p.w
  mem : q.mem = p.mem
  inn : q.inn = p.inn
  len : q.code.length = p.code.length
  one : diffTo q.code p.code p.code.length = 1
theorem mutI_ok {i y : V.Ins} {w n : Int} (hw : inP w 1 16 = true) (hi : insP i w n = true) (hy : y ∈ mutI w i) : insP y w n = true ∧ y ≠ i := by
  obtain ⟨op, a, b, c⟩ := i
  unfold mutI at hy
  simp only at hy
  split at hy
  · rename_i h; subst h
    rw [List.mem_singleton] at hy; subst hy
    simp [insP] at hi
    refine ⟨?_, fun e => word_next hw hi.1.2 (congrArg V.Ins.b e)⟩
    simp [insP, hi, wordOf_word _ hw]
  · split at hy
    · rename_i h; subst h
      rw [List.mem_singleton] at hy; subst hy
      have hc := ins_c3 hi rfl
      simp [insP] at hi
      simp only at hc
      refine ⟨?_, fun e => ?_⟩
      · simp only [insP, inP]
        simp [hi]
        split
        · omega
        · split <;> omega
      · have := congrArg V.Ins.c e
        simp only at this
        split at this
        · omega
        · split at this <;> omega
    · split at hy
      · rename_i h; subst h
        simp [insP] at hi
        simp only [List.mem_cons, List.not_mem_nil, or_false] at hy
        rcases hy with rfl | rfl
        · exact ⟨by simp [insP, hi], fun e => by have := congrArg V.Ins.op e; simp at this⟩
        · exact ⟨by simp [insP, hi], fun e => by have := congrArg V.Ins.op e; simp at this⟩
      · split at hy
        · rename_i h; subst h
          simp [insP] at hi
          rw [List.mem_singleton] at hy; subst hy
          exact ⟨by simp [insP, hi], fun e => by have := congrArg V.Ins.op e; simp at this⟩
        · simp at hy
theorem muts_mem {p : V.Prog} : ∀ {k : Nat} {q : V.Prog}, q ∈ mutsTo p k → ∃ j y, j < k ∧ y ∈ mutI p.w (p.code.getD j K.inss.dflt) ∧ q = ⟨p.w, p.mem, p.inn, p.code.set j y⟩
  | 0, q, h => by simp [mutsTo] at h
  | k + 1, q, h => by
    simp only [mutsTo, List.mem_append, List.mem_map] at h
    rcases h with h | ⟨y, h1, h2⟩
    · obtain ⟨j, y, h1, h2⟩ := muts_mem h
      exact ⟨j, y, by omega, h2⟩
    · exact ⟨k, y, by omega, h1, h2.symm⟩
theorem mut_at {w mem inn : Int} {c : List V.Ins} {k : Nat} (hp : progP ⟨w, mem, inn, c⟩ = true) (hk : (k : Int) < (mutsP ⟨w, mem, inn, c⟩).length) : MutI ⟨w, mem, inn, c⟩ ((mutsP ⟨w, mem, inn, c⟩).getD k K.progs.dflt) := by
  have hk' : k < (mutsP ⟨w, mem, inn, c⟩).length := by omega
  have hm : (mutsP ⟨w, mem, inn, c⟩).getD k K.progs.dflt ∈ mutsP ⟨w, mem, inn, c⟩ := by
    rw [List.getD_eq_getElem?_getD, List.getElem?_eq_getElem hk']; exact List.getElem_mem hk'
  generalize (mutsP ⟨w, mem, inn, c⟩).getD k K.progs.dflt = q at hm ⊢
  unfold mutsP at hm
  rw [if_pos hp] at hm
  obtain ⟨j, y, hj, hy, rfl⟩ := muts_mem hm
  have hw : inP w 1 16 = true := (prog_in hp).2.2
  simp only at hj hy
  obtain ⟨h1, h2⟩ := mutI_ok hw (ins_at hp (k := j) (by omega)) hy
  exact ⟨prog_set j hp h1, rfl, rfl, rfl, by simp, by simp only; rw [diff_set hj h2, if_pos hj]⟩
theorem mut_inputs {p q : V.Prog} (h : MutI p q) {l : List Int} (hi : inputsP p l = true) : inputsP q l = true := by
  simp only [inputsP, Bool.and_eq_true] at hi ⊢
  rw [h.w, h.inn]
  exact ⟨h.ok, hi.2⟩
/-- the kills are the numbers of the tests that tell the programs apart -/
theorem kills_mem {p q : V.Prog} {ts : List (List Int)} {fuel : Int} {n j : Nat} (hj : j < n) : ((j : Int) ∈ killsTo p q ts fuel n) ↔ sameRunP p q (ts.getD j []) fuel = false := by
  unfold killsTo
  simp only [List.mem_map, List.mem_filter, List.mem_range, Bool.not_eq_true']
  constructor
  · rintro ⟨i, ⟨h1, h2⟩, h3⟩
    have : i = j := by omega
    subst this; exact h2
  · intro h; exact ⟨j, ⟨hj, h⟩, rfl⟩
theorem found_y {l : List Int} {x : Int} {m : Nat} (h : decide (x ∈ l.take m) = true) : Dat.bool (decide (x ∈ l.take (m + 1))) = Dat.bool true :=
  congrArg Dat.bool (decide_eq_true (List.mem_of_mem_take (i := m) (by rw [List.take_take, Nat.min_eq_left (by omega)]; exact of_decide_eq_true h)))
theorem found_n {l : List Int} {x : Int} {m : Nat} (h : decide (x ∈ l.take m) = false) (hm : (m : Int) < l.length) : Dat.bool (decide (x ∈ l.take (m + 1))) = Dat.bool (l.getD (m : Int).toNat K.ints.dflt == x) := by
  have hm' : m < l.length := by omega
  have h' := of_decide_eq_false h
  refine congrArg Dat.bool ?_
  rw [Int.toNat_natCast, List.take_succ_eq_append_getElem hm', List.getD_eq_getElem?_getD, List.getElem?_eq_getElem hm', Option.getD_some, Bool.eq_iff_iff, decide_eq_true_iff, beq_iff_eq, List.mem_append, List.mem_singleton]
  exact ⟨fun h => h.elim (fun h => absurd h h') Eq.symm, fun h => .inr h.symm⟩
theorem found_0 (x : Int) (l : List Int) : Dat.bool (decide (x ∈ l.take 0)) = Dat.bool false := by simp
theorem kill_due {p q : V.Prog} {ts : List (List Int)} {fuel : Int} {n j m : Nat} (hj : (j : Int) < n) (hm : ¬ (m : Int) < (killsTo p q ts fuel n).length) (h : (decide ((j : Int) ∈ (killsTo p q ts fuel n).take m) == !sameRunP p q (ts.getD j []) fuel) = false) : False := by
  rw [List.take_of_length_le (by omega)] at h
  have h1 := kills_mem (p := p) (q := q) (ts := ts) (fuel := fuel) (n := n) (j := j) (by omega)
  cases hs : sameRunP p q (ts.getD j []) fuel with
  | false => rw [hs, decide_eq_true (h1.2 hs)] at h; exact absurd h (by decide)
  | true => rw [hs, decide_eq_false (fun x => by have := h1.1 x; rw [hs] at this; cases this)] at h; exact absurd h (by decide)
end Vg
