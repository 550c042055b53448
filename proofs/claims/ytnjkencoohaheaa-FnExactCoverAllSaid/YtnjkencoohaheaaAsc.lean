/- Ascending lists without repetition: sorted and made compact, they are what insertion one by one makes. No condition. -/
import Derived.Test.YtnjkencoohaheaaSortI
namespace Vg
open Go Go.Sort Go.Proofs

/-- a number put into an ascending list, if it is not there -/
def insM (x : Int) : List Int → List Int
  | [] => [x]
  | y :: l => if y < x then y :: insM x l else if y = x then y :: l else x :: y :: l

theorem ins_same {x : Int} : ∀ {l : List Int} {k : Nat}, k < l.length → (∀ j, j < k → l.getD j 0 < x) → l.getD k 0 = x → insM x l = l
  | [], k, h, _, _ => absurd h (by simp)
  | y :: l, 0, _, _, h => by
    have e : y = x := h
    subst e; simp [insM]
  | y :: l, k + 1, h, hj, he => by
    have h0 : y < x := hj 0 (by omega)
    have ih := ins_same (l := l) (k := k) (by simpa using h) (fun j hk => by simpa using hj (j + 1) (by omega)) (by simpa using he)
    simp [insM, h0, ih]

theorem ins_new {x : Int} : ∀ {l : List Int} {k : Nat}, k ≤ l.length → (∀ j, j < k → l.getD j 0 < x) → (k < l.length → x < l.getD k 0) → insM x l = l.take k ++ [x] ++ l.drop k
  | [], k, h, _, _ => by
    have : k = 0 := by simpa using h
    subst this; rfl
  | y :: l, 0, _, _, h => by
    have e : x < y := h (by simp)
    have h1 : ¬ y < x := by omega
    have h2 : ¬ y = x := by omega
    simp [insM, h1, h2]
  | y :: l, k + 1, h, hj, he => by
    have h0 : y < x := hj 0 (by omega)
    have ih := ins_new (l := l) (k := k) (by simpa using h) (fun j hk => by simpa using hj (j + 1) (by omega)) (fun hk => by simpa using he (by simpa using hk))
    simp [insM, h0, ih]

theorem ins_mem {x y : Int} : ∀ {l : List Int}, y ∈ insM x l ↔ y = x ∨ y ∈ l
  | [] => by simp [insM]
  | z :: l => by
    unfold insM
    split
    · rw [List.mem_cons, ins_mem (l := l), List.mem_cons]
      constructor
      · rintro (h | h | h) <;> simp [h]
      · rintro (h | h | h) <;> simp [h]
    · split
      · rename_i h; subst h
        constructor
        · intro h; exact .inr h
        · rintro (h | h)
          · rw [h]; exact List.mem_cons_self
          · exact h
      · rw [List.mem_cons]
theorem ins_len {x : Int} : ∀ {l : List Int}, (insM x l).length ≤ l.length + 1
  | [] => by simp [insM]
  | z :: l => by
    have := ins_len (x := x) (l := l)
    unfold insM
    split
    · simp; omega
    · split <;> simp

abbrev Strict (l : List Int) : Prop := l.Pairwise (· < ·)

theorem ins_strict {x : Int} : ∀ {l : List Int}, Strict l → Strict (insM x l)
  | [], _ => by simp [insM, Strict]
  | y :: l, h => by
    have h' := List.pairwise_cons.1 h
    unfold insM
    split
    · refine List.pairwise_cons.2 ⟨fun z hz => ?_, ins_strict h'.2⟩
      rcases ins_mem.1 hz with e | hz
      · subst e; assumption
      · exact h'.1 z hz
    · split
      · exact h
      · refine List.pairwise_cons.2 ⟨fun z hz => ?_, h⟩
        rcases List.mem_cons.1 hz with e | hz
        · subst e; omega
        · have := h'.1 z hz; omega

theorem strict_eq : ∀ {a b : List Int}, Strict a → Strict b → (∀ x, x ∈ a ↔ x ∈ b) → a = b
  | [], [], _, _, _ => rfl
  | [], y :: b, _, _, h => absurd ((h y).2 List.mem_cons_self) (by simp)
  | x :: a, [], _, _, h => absurd ((h x).1 List.mem_cons_self) (by simp)
  | x :: a, y :: b, ha, hb, h => by
    have ha' := List.pairwise_cons.1 ha
    have hb' := List.pairwise_cons.1 hb
    have e : x = y := by
      rcases List.mem_cons.1 ((h x).1 List.mem_cons_self) with e | hx
      · exact e
      · rcases List.mem_cons.1 ((h y).2 List.mem_cons_self) with e | hy
        · exact e.symm
        · have h1 := hb'.1 x hx; have h2 := ha'.1 y hy; omega
    subst e
    refine congrArg (x :: ·) (strict_eq ha'.2 hb'.2 fun z => ⟨fun hz => ?_, fun hz => ?_⟩)
    · rcases List.mem_cons.1 ((h z).1 (List.mem_cons_of_mem _ hz)) with e | h1
      · subst e; exact absurd (ha'.1 z hz) (by omega)
      · exact h1
    · rcases List.mem_cons.1 ((h z).2 (List.mem_cons_of_mem _ hz)) with e | h1
      · subst e; exact absurd (hb'.1 z hz) (by omega)
      · exact h1

theorem keeps_step {d : Array Int} {m : Nat} (hm : 0 < m) : Lib.keeps d m = true ↔ d[m]! ≠ d[m - 1]! := by
  by_cases h : d[m]! = d[m - 1]!
  · rw [Lib.keeps_neg hm h]; simp [h]
  · rw [Lib.keeps_pos h]; simp [h]

theorem comp_inv {zs : List Int} (hs : zs.Pairwise (· ≤ ·)) : ∀ m, m ≤ zs.length → Strict (Lib.compactUpTo zs.toArray m) ∧ ∀ x, x ∈ Lib.compactUpTo zs.toArray m ↔ x ∈ zs.take m
  | 0, _ => by
    have : Lib.compactUpTo zs.toArray 0 = [] := by simp [Lib.compactUpTo]
    rw [this]; simp [Strict]
  | m + 1, hm => by
    obtain ⟨ih1, ih2⟩ := comp_inv hs m (by omega)
    have hmm : m < zs.length := by omega
    have e0 : zs.toArray[m]! = zs[m] := by simp [hmm]
    rw [Lib.compactUpTo_succ, e0]
    have htk : zs.take (m + 1) = zs.take m ++ [zs[m]] := by rw [List.take_append_getElem]
    have hle : ∀ x ∈ zs.take m, x ≤ zs[m] := by
      intro x hx
      rw [List.mem_take_iff_getElem] at hx
      obtain ⟨i, hi, rfl⟩ := hx
      exact List.pairwise_iff_getElem.1 hs i m (by omega) hmm (by omega)
    cases hk : Lib.keeps zs.toArray m with
    | true =>
      simp only [if_true]
      refine ⟨List.pairwise_append.2 ⟨ih1, by simp, fun x hx y hy => ?_⟩, fun x => ?_⟩
      · rw [List.mem_singleton] at hy; subst hy
        have hx' := (ih2 x).1 hx
        have h1 := hle x hx'
        rcases Nat.eq_zero_or_pos m with h0 | h0
        · subst h0; simp at hx'
        · have hne := (keeps_step h0).1 hk
          have e1 : zs.toArray[m - 1]! = zs[m - 1] := by simp [show m - 1 < zs.length by omega]
          rw [e0, e1] at hne
          rw [List.mem_take_iff_getElem] at hx'
          obtain ⟨i, hi, rfl⟩ := hx'
          have h2 : zs[i] ≤ zs[m - 1] := by
            rcases Nat.lt_or_ge i (m - 1) with h3 | h3
            · exact List.pairwise_iff_getElem.1 hs i (m - 1) (by omega) (by omega) h3
            · have : i = m - 1 := by omega
              subst this; exact Int.le_refl _
          have h3 : zs[m - 1] ≤ zs[m] := List.pairwise_iff_getElem.1 hs (m - 1) m (by omega) hmm (by omega)
          omega
      · rw [htk, List.mem_append, List.mem_append, ih2 x]
    | false =>
      simp only [Bool.false_eq_true, if_false, List.append_nil]
      refine ⟨ih1, fun x => ?_⟩
      rw [ih2 x, htk, List.mem_append, List.mem_singleton]
      refine ⟨.inl, fun h => h.elim id fun h => ?_⟩
      have h0 : 0 < m := by
        rcases Nat.eq_zero_or_pos m with h0 | h0
        · subst h0; simp [Lib.keeps] at hk
        · exact h0
      have he : ¬ (zs.toArray[m]! ≠ zs.toArray[m - 1]!) := fun hne => by rw [(keeps_step h0).2 hne] at hk; cases hk
      have e1 : zs.toArray[m - 1]! = zs[m - 1] := by simp [show m - 1 < zs.length by omega]
      rw [e0, e1] at he
      have he' : zs[m] = zs[m - 1] := Decidable.of_not_not he
      rw [h, he', List.mem_take_iff_getElem]
      exact ⟨m - 1, by omega, rfl⟩

/-- sorted, each number once -/
def asc (l : List Int) : List Int := Lib.compact (sorted l)
theorem sorted_le (l : List Int) : (sorted l).Pairwise (· ≤ ·) := by
  have h := List.pairwise_mergeSort (le := fun x y : Int => decide (x ≤ y)) (fun a b c h1 h2 => by simp at *; omega) (fun a b => by simp; omega) l
  exact h.imp fun h => by simpa using h
theorem asc_strict (l : List Int) : Strict (asc l) := by
  have h := (comp_inv (sorted_le l) (sorted l).length (Nat.le_refl _)).1
  exact h
theorem asc_mem {l : List Int} {x : Int} : x ∈ asc l ↔ x ∈ l := by
  have h := (comp_inv (sorted_le l) (sorted l).length (Nat.le_refl _)).2 x
  rw [List.take_length] at h
  exact h.trans List.mem_mergeSort
theorem asc_len (l : List Int) : (asc l).length ≤ l.length := by
  have h := Lib.compact_length_le (sorted l)
  rw [List.length_mergeSort] at h; exact h
theorem asc_eq {a b : List Int} (h : ∀ x, x ∈ a ↔ x ∈ b) : asc a = asc b :=
  strict_eq (asc_strict a) (asc_strict b) fun x => by rw [asc_mem, asc_mem, h x]

/-- all numbers of a list put into an ascending list, one by one -/
def insA (l : List Int) (xs : List Int) : List Int := xs.foldl (fun l x => insM x l) l
theorem insA_strict {xs : List Int} : ∀ {l : List Int}, Strict l → Strict (insA l xs) := by
  induction xs with
  | nil => exact fun h => h
  | cons x xs ih => exact fun h => ih (l := insM x _) (ins_strict h)
theorem insA_mem {y : Int} {xs : List Int} : ∀ {l : List Int}, y ∈ insA l xs ↔ y ∈ l ∨ y ∈ xs := by
  induction xs with
  | nil => intro l; simp [insA]
  | cons x xs ih =>
    intro l
    show y ∈ insA (insM x l) xs ↔ _
    rw [ih, ins_mem, List.mem_cons]
    constructor
    · rintro ((h | h) | h) <;> simp [h]
    · rintro (h | h | h) <;> simp [h]
theorem insA_len {xs : List Int} : ∀ {l : List Int}, (insA l xs).length ≤ l.length + xs.length := by
  induction xs with
  | nil => intro l; simp [insA]
  | cons x xs ih =>
    intro l
    have h1 := ih (l := insM x l)
    have h2 := ins_len (x := x) (l := l)
    show (insA (insM x l) xs).length ≤ _
    rw [List.length_cons]; omega
theorem insA_append {xs ys : List Int} {l : List Int} : insA l (xs ++ ys) = insA (insA l xs) ys := by simp [insA]
theorem asc_insA (xs : List Int) : asc xs = insA [] xs :=
  strict_eq (asc_strict xs) (insA_strict List.Pairwise.nil) fun x => by rw [asc_mem, insA_mem]; simp
theorem insA_asc (l xs : List Int) : insA (asc l) xs = asc (l ++ xs) :=
  strict_eq (insA_strict (asc_strict l)) (asc_strict _) fun x => by rw [asc_mem, insA_mem, asc_mem, List.mem_append]
end Vg
