/- The library's sort of integers and its removal of equal neighbours, as contracts over a given row. Conditions: the library's functions lie in the program. -/
import Derived.Test.YtnjkencoohaheaaRet
import Derived.Shelf.Sort.Plain
import Derived.Shelf.Slices.In.SortNone
import Derived.Shelf.Slices.CompactI
import Derived.Sort.OwnSortedInts
import Derived.Lib.RowBridge
import Derived.Test.YtnjkencoohaheaaProg
namespace Vg
open Go Go.Sort Go.Proofs Go.Shelf

/-- the cells of a row of integers -/
theorem ints_cells {h : Array Obj} {Im : Nat → Nat → Prop} {l : List Int} {cs : Array Value}
    (hcs : ∀ k j, k < l.length → j < K.sz .ints → ∃ c : Value, cs[k * K.sz .ints + j]? = some c ∧ RepD h Im (cellOf .ints l k j) c) :
    cs.toList.take l.length = l.map (Value.int .i64) := by
  apply List.ext_getElem?
  intro j
  by_cases hj : j < l.length
  · obtain ⟨c, h1, h2⟩ := hcs j 0 hj (by decide)
    rw [List.getElem?_take_of_lt hj, Array.getElem?_toList]
    simp only [K.sz, Nat.mul_one, Nat.add_zero] at h1
    rw [h1]
    have e : cellOf .ints l j 0 = .int .i64 l[j] := by simp [cellOf, K.enc, List.getElem?_eq_getElem hj]
    rw [e] at h2
    cases h2
    simp [hj]
  · rw [List.getElem?_take_eq_none (by omega), List.getElem?_eq_none (by simp; omega)]

theorem cells_ints {h : Array Obj} {Im : Nat → Nat → Prop} {l : List Int} {cs : Array Value} (ht : cs.toList.take l.length = l.map (Value.int .i64)) :
    ∀ k j, k < l.length → j < K.sz .ints → ∃ c : Value, cs[k * K.sz .ints + j]? = some c ∧ RepD h Im (cellOf .ints l k j) c := by
  intro k j hk hj
  have hj0 : j = 0 := by simp only [K.sz] at hj; omega
  subst hj0
  refine ⟨.int .i64 l[k], ?_, ?_⟩
  · have h1 : (cs.toList.take l.length)[k]? = (l.map (Value.int .i64))[k]? := by rw [ht]
    rw [List.getElem?_take_of_lt hk, Array.getElem?_toList] at h1
    simp only [K.sz, Nat.mul_one, Nat.add_zero]
    rw [h1]; simp [hk]
  · have e : cellOf .ints l k 0 = .int .i64 l[k] := by simp [cellOf, K.enc, List.getElem?_eq_getElem hk]
    rw [e]; exact .int .i64 _

theorem vs_one {vs : Array Value} {v : Value} (h : vs.size = 1) (e : vs.getD 0 undef = v) : vs = #[v] := by
  apply Array.ext (by simpa using h)
  intro i h1 h2
  have : i = 0 := by simp at h2; omega
  subst this
  simp at e ⊢
  rw [← e]; simp [h]

/-- one row of integers, turned in place -/
theorem one_row {w w' : World} {Im : Nat → Nat → Prop} {ρ ρ' : Rho} {T : Nat} {l l' : List Int} {r r' : RI} {cs : Array Value} {T0 : TypeId}
    (E : Env (fun j => [Blk.row T .ints l false][j]?) ρ Im w.heap) (hr : ρ 0 = some r) (hr' : ρ' 0 = some r') (e1 : r'.b = r.b) (e2 : r'.cap = r.cap) (e3 : r'.len = l'.length) (e4 : r'.fp = r.fp) (hl : l'.length ≤ l.length)
    (hh : w'.heap[r.b]? = some (.cells cs T0 (0, 0))) (hsz : cs.size = r.cap * 1) (ht : cs.toList.take l'.length = l'.map (Value.int .i64))
    (hf : ∀ b, b < w.heap.size → b ≠ r.b → w'.heap[b]? = w.heap[b]?) (hg : w.heap.size ≤ w'.heap.size) (ho : w'.os = w.os) (htp : w'.tape = w.tape) (hout : w'.output = w.output) :
    Env (fun j => [Blk.row T .ints l' false][j]?) ρ' Im w'.heap ∧ Ext w (.of 1 ρ) Im (fun j => [Blk.row T .ints l' false][j]?) ρ' Im w' := by
  have z : ∀ {i : Nat} {b : Blk}, (fun j => [Blk.row T .ints l' false][j]?) i = some b → i = 0 ∧ b = Blk.row T .ints l' false := fun {i b} hi => by
    cases i with
    | zero => cases hi; exact ⟨rfl, rfl⟩
    | succ i => cases hi
  have z' : ∀ {i : Nat}, (fun j => [Blk.row T .ints l' false][j]?) i ≠ none → i = 0 := fun {i} hi => by
    cases i with
    | zero => rfl
    | succ i => exact absurd rfl hi
  have n0 : (fun j => [Blk.row T .ints l false][j]?) 0 ≠ none := by simp
  have hb : r.b < w.heap.size := by
    have h0 := E.bl 0 _ rfl
    simp only [BlkR, hr] at h0
    obtain ⟨_, _, _, cs0, T1, h1, _⟩ := h0
    exact (Array.getElem?_eq_some_iff.1 h1).1
  have him : ∀ o, ¬ Im r.b o := fun o hI => by
    have := (E.imOwn 0 _ r o rfl hr).1 hI
    simp [Blk.pinned] at this
  have h0 := E.bl 0 _ rfl
  simp only [BlkR, hr] at h0
  obtain ⟨a1, a2, a3, _⟩ := h0
  have same : ∀ {x}, r'.has x → r.has x := fun {x} hx => by
    rcases hx with hx | hx
    · exact .inl (hx.trans e1)
    · exact .inr (e4 ▸ hx)
  refine ⟨⟨fun i b hi => ?_, fun i j r1 r2 x hi hj _ _ _ _ => (z' hi).trans (z' hj).symm, fun i r1 hi h1 => ?_, fun i r1 x hi h1 hx => ?_, fun i r1 x o hi h1 hx => ?_, fun b o hI => Nat.lt_of_lt_of_le (E.imlt b o hI) hg, fun i b r1 o hi h1 => ?_⟩,
    ⟨fun i r1 x hi h1 hx => ?_, fun _ _ h => h, fun b o h => .inl h, fun b o hI => ?_, fun b hb hG => ?_, hg, ho, htp, hout, fun i p hp => by cases hp⟩⟩
  · obtain ⟨rfl, rfl⟩ := z hi
    simp only [BlkR, hr']
    refine ⟨e3, by omega, by omega, cs, T0, by rw [e1]; exact hh, by rw [e2]; exact hsz, cells_ints ht⟩
  · obtain rfl := z' hi
    obtain rfl : r1 = r' := Option.some.inj (h1.symm.trans hr')
    rw [e4, e1]; exact E.fpNe 0 r n0 hr
  · obtain rfl := z' hi
    obtain rfl : r1 = r' := Option.some.inj (h1.symm.trans hr')
    rw [e4] at hx
    exact Nat.lt_of_lt_of_le (E.fpLt 0 r x n0 hr hx) hg
  · obtain rfl := z' hi
    obtain rfl : r1 = r' := Option.some.inj (h1.symm.trans hr')
    rw [e4] at hx
    exact E.fpIm 0 r x o n0 hr hx
  · obtain ⟨rfl, rfl⟩ := z hi
    obtain rfl : r1 = r' := Option.some.inj (h1.symm.trans hr')
    rw [e1]; exact E.imOwn 0 (.row T .ints l false) r o rfl hr
  · obtain rfl := z' hi
    obtain rfl : r1 = r' := Option.some.inj (h1.symm.trans hr')
    exact .inl ⟨0, r, by omega, hr, same hx⟩
  · have hne : b ≠ r.b := fun e => him o (e ▸ hI)
    exact hcell_of_block (hf b (E.imlt b o hI) hne) o
  · exact hf b hb fun e => hG ⟨0, r, by omega, hr, .inl e⟩

/-- no row -/
theorem no_row {w : World} {Im : Nat → Nat → Prop} {ρ : Rho} {T : Nat} {l : List Int}
    (_E : Env (fun j => [Blk.row T .ints l false][j]?) ρ Im w.heap) :
    Ext w (.of 1 ρ) Im (fun j => [Blk.row T .ints l false][j]?) ρ Im w := by
  refine ⟨fun i r1 x hi h1 hx => ?_, fun _ _ h => h, fun b o h => .inl h, fun b o hI => rfl, fun b hb hG => rfl, Nat.le_refl _, rfl, rfl, rfl, fun i p hp => by cases hp⟩
  cases i with
  | zero => exact .inl ⟨0, r1, by omega, h1, hx⟩
  | succ i => exact absurd rfl hi

abbrev sorted (l : List Int) : List Int := l.mergeSort fun x y => decide (x ≤ y)

theorem sortG {P : Program} {q : Ren} {f : FuncId} {T : Nat} {l : List Int} (L : Lays.n189 P q) (hq : q.f 189 = f)
    (hf : ∃ fn, P.funcs[f]? = some fn ∧ (fn.name == "runtime.NumGoroutine") = false ∧ fn.body.isNone = false) (hl : l.length < 4611686018427387904) :
    CallsG P f [.row 0] [.row T .ints l false] 1 (fun res B => res = .tup [] ∧ B = [.row T .ints (sorted l) false]) := by
  subst hq
  refine ⟨hf, fun w Im ρ vs hs ha E => ?_⟩
  have h0 := ha 0 (.row 0) rfl
  have hB := E.bl 0 _ rfl
  generalize hv : vs.getD 0 undef = v at h0
  obtain rfl := vs_one hs hv
  cases h0 with
  | row _ r hi =>
    simp only [BlkR, hi] at hB
    obtain ⟨a1, a2, a3, cs, T0, hh, hsz, hcs⟩ := hB
    have ht := ints_cells hcs
    rw [a1]
    refine (Any.slices_Sort_int L r.b 0 r.cap l w (holds_of_blockI hh ht) (Array.getElem?_eq_some_iff.1 hh).1 hl).mono fun e w' he => ?_
    obtain ⟨rfl, n, os, rfl⟩ := he
    have hlen : (sorted l).length = l.length := List.length_mergeSort l
    have hx := one_row (l' := sorted l) (r' := r) E hi hi rfl rfl (by omega) rfl (by omega) (heap_sortedI (n := n) (os := os) (sorted l).toArray hh) (by simpa [putCells, K.sz] using hsz)
      (take_putCellsI cs (sorted l) (by have : cs.size = r.cap * 1 := hsz; omega))
      (fun b hb hne => (grownBy_sortedI (w := w) (g := r.b) (n := n) (os := os) (sorted l).toArray).block b hb fun e => hne (Option.some.inj e))
      (grownBy_sortedI (w := w) (g := r.b) (n := n) (os := os) (sorted l).toArray).size rfl rfl rfl
    exact ⟨_, .tup [], _, ρ, Im, rfl, ⟨rfl, rfl⟩, .tup [] #[] (fun _ => undef) rfl (by simp) (by simp), hx.1, fun j hj => ⟨by simpa using hj, rfl⟩, hx.2⟩
  | rowN _ hi =>
    simp only [BlkR, hi] at hB
    obtain rfl : l = [] := List.eq_nil_of_length_eq_zero hB
    refine (Any.slices_Sort_int_none L none 0 w).mono fun e w' he => ?_
    obtain ⟨rfl, rfl⟩ := he
    exact ⟨_, .tup [], _, ρ, Im, rfl, ⟨rfl, rfl⟩, .tup [] #[] (fun _ => undef) rfl (by simp) (by simp), by simpa [sorted] using E, fun j hj => ⟨by simpa using hj, rfl⟩, by simpa [sorted] using no_row E⟩

theorem compactG {P : Program} {q : Ren} {f : FuncId} {T : Nat} {l : List Int} (L : Lays2.n20 P q) (hq : q.f 20 = f)
    (hf : ∃ fn, P.funcs[f]? = some fn ∧ (fn.name == "runtime.NumGoroutine") = false ∧ fn.body.isNone = false) (hl : l.length ≤ 9223372036854775807) :
    CallsG P f [.row 0] [.row T .ints l false] 0 (fun res B => res = .row 0 ∧ B = [.row T .ints (Lib.compact l) false]) := by
  subst hq
  refine ⟨hf, fun w Im ρ vs hs ha E => ?_⟩
  have h0 := ha 0 (.row 0) rfl
  have hB := E.bl 0 _ rfl
  generalize hv : vs.getD 0 undef = v at h0
  obtain rfl := vs_one hs hv
  cases h0 with
  | row _ r hi =>
    simp only [BlkR, hi] at hB
    obtain ⟨a1, a2, a3, cs, T0, hh, hsz, hcs⟩ := hB
    have ht := ints_cells hcs
    rw [a1]
    refine (Any.slices_Compact_int L r.b 0 r.cap l w (holds_of_blockI hh ht) hl (by omega)).mono fun e w' he => ?_
    obtain ⟨rfl, n, rfl⟩ := he
    have hle := Lib.compact_length_le l
    generalize hd : Lib.compact l ++ List.replicate (l.length - (Lib.compact l).length) 0 = d
    have hdl : d.length = l.length := by subst hd; simp; omega
    have hdt : d.take (Lib.compact l).length = Lib.compact l := by subst hd; simp
    have hpt := take_putCellsI cs d (by have : cs.size = r.cap * 1 := hsz; omega)
    have hg0 : grow (putRow (Value.int .i64) (Sort.ahead w n) r.b 0 d.toArray) #[] = putRow (Value.int .i64) (Sort.ahead w n) r.b 0 d.toArray := by unfold grow; rw [Array.append_empty]
    have hx := one_row (w' := putRow (Value.int .i64) (Sort.ahead w n) r.b 0 d.toArray) (l' := Lib.compact l) (r' := ⟨r.b, r.cap, (Lib.compact l).length, r.fp⟩) (ρ' := updR ρ 0 (some ⟨r.b, r.cap, (Lib.compact l).length, r.fp⟩)) E hi (updR_same _ _ _) rfl rfl rfl rfl hle
      (hg0 ▸ heap_sortedI (n := n) (os := #[]) d.toArray hh) (by simpa [putCells, K.sz] using hsz)
      (by
        have e := congrArg (List.take (Lib.compact l).length) hpt
        rw [List.take_take, Nat.min_eq_left (by omega), ← List.map_take, hdt] at e
        exact e)
      (fun b hb hne => by have := (grownBy_sortedI (w := w) (g := r.b) (n := n) (os := #[]) d.toArray).block b hb fun e => hne (Option.some.inj e); rwa [hg0] at this)
      (by have := (grownBy_sortedI (w := w) (g := r.b) (n := n) (os := #[]) d.toArray).size; rwa [hg0] at this) rfl rfl rfl
    exact ⟨_, .row 0, _, _, Im, rfl, ⟨rfl, rfl⟩, .row 0 ⟨r.b, r.cap, (Lib.compact l).length, r.fp⟩ (updR_same _ _ _), hx.1, fun j hj => absurd hj (by omega), hx.2⟩
  | rowN _ hi =>
    simp only [BlkR, hi] at hB
    obtain rfl : l = [] := List.eq_nil_of_length_eq_zero hB
    refine (Any.slices_Compact_int_empty L none 0 w).mono fun e w' he => ?_
    obtain ⟨rfl, rfl⟩ := he
    have hc : Lib.compact ([] : List Int) = [] := List.eq_nil_of_length_eq_zero (Nat.le_zero.1 (Lib.compact_length_le []))
    exact ⟨_, .row 0, _, ρ, Im, rfl, ⟨rfl, rfl⟩, .rowN 0 hi, by rw [hc]; exact E, fun j hj => absurd hj (by omega), by rw [hc]; exact no_row E⟩
end Vg

namespace Vg
open Go Go.Sort Go.Proofs

def insM (x : Int) : List Int → List Int
  | [] => [x]
  | y :: l => if y < x then y :: insM x l else if y = x then y :: l else x :: y :: l

theorem ins_same {x : Int} : ∀ {l : List Int} {k : Nat}, k < l.length → (∀ j, j < k → l.getD j 0 < x) → l.getD k 0 = x → insM x l = l
  | [], k, h, _, _ => absurd h (by simp)
  | y :: l, 0, _, _, h => by
    have e : y = x := h
    subst e; simp [insM]
  | y :: l, k + 1, h, hj, he => by
    have h0 : y < x := hj 0 (by omega)
    have ih := ins_same (l := l) (k := k) (by simpa using h) (fun j hk => by simpa using hj (j + 1) (by omega)) (by simpa using he)
    simp [insM, h0, ih]

theorem ins_new {x : Int} : ∀ {l : List Int} {k : Nat}, k ≤ l.length → (∀ j, j < k → l.getD j 0 < x) → (k < l.length → x < l.getD k 0) → insM x l = l.take k ++ [x] ++ l.drop k
  | [], k, h, _, _ => by
    have : k = 0 := by simpa using h
    subst this; rfl
  | y :: l, 0, _, _, h => by
    have e : x < y := h (by simp)
    have h1 : ¬ y < x := by omega
    have h2 : ¬ y = x := by omega
    simp [insM, h1, h2]
  | y :: l, k + 1, h, hj, he => by
    have h0 : y < x := hj 0 (by omega)
    have ih := ins_new (l := l) (k := k) (by simpa using h) (fun j hk => by simpa using hj (j + 1) (by omega)) (fun hk => by simpa using he (by simpa using hk))
    simp [insM, h0, ih]

theorem ins_mem {x y : Int} : ∀ {l : List Int}, y ∈ insM x l ↔ y = x ∨ y ∈ l
  | [] => by simp [insM]
  | z :: l => by
    unfold insM
    split
    · rw [List.mem_cons, ins_mem (l := l), List.mem_cons]
      constructor
      · rintro (h | h | h) <;> simp [h]
      · rintro (h | h | h) <;> simp [h]
    · split
      · rename_i h; subst h
        constructor
        · intro h; exact .inr h
        · rintro (h | h)
          · rw [h]; exact List.mem_cons_self
          · exact h
      · rw [List.mem_cons]
theorem ins_len {x : Int} : ∀ {l : List Int}, (insM x l).length ≤ l.length + 1
  | [] => by simp [insM]
  | z :: l => by
    have := ins_len (x := x) (l := l)
    unfold insM
    split
    · simp; omega
    · split <;> simp

abbrev Strict (l : List Int) : Prop := l.Pairwise (· < ·)

theorem ins_strict {x : Int} : ∀ {l : List Int}, Strict l → Strict (insM x l)
  | [], _ => by simp [insM, Strict]
  | y :: l, h => by
    have h' := List.pairwise_cons.1 h
    unfold insM
    split
    · refine List.pairwise_cons.2 ⟨fun z hz => ?_, ins_strict h'.2⟩
      rcases ins_mem.1 hz with e | hz
      · subst e; assumption
      · exact h'.1 z hz
    · split
      · exact h
      · refine List.pairwise_cons.2 ⟨fun z hz => ?_, h⟩
        rcases List.mem_cons.1 hz with e | hz
        · subst e; omega
        · have := h'.1 z hz; omega

theorem strict_eq : ∀ {a b : List Int}, Strict a → Strict b → (∀ x, x ∈ a ↔ x ∈ b) → a = b
  | [], [], _, _, _ => rfl
  | [], y :: b, _, _, h => absurd ((h y).2 List.mem_cons_self) (by simp)
  | x :: a, [], _, _, h => absurd ((h x).1 List.mem_cons_self) (by simp)
  | x :: a, y :: b, ha, hb, h => by
    have ha' := List.pairwise_cons.1 ha
    have hb' := List.pairwise_cons.1 hb
    have e : x = y := by
      rcases List.mem_cons.1 ((h x).1 List.mem_cons_self) with e | hx
      · exact e
      · rcases List.mem_cons.1 ((h y).2 List.mem_cons_self) with e | hy
        · exact e.symm
        · have h1 := hb'.1 x hx; have h2 := ha'.1 y hy; omega
    subst e
    refine congrArg (x :: ·) (strict_eq ha'.2 hb'.2 fun z => ⟨fun hz => ?_, fun hz => ?_⟩)
    · rcases List.mem_cons.1 ((h z).1 (List.mem_cons_of_mem _ hz)) with e | h1
      · subst e; exact absurd (ha'.1 z hz) (by omega)
      · exact h1
    · rcases List.mem_cons.1 ((h z).2 (List.mem_cons_of_mem _ hz)) with e | h1
      · subst e; exact absurd (hb'.1 z hz) (by omega)
      · exact h1

theorem keeps_step {d : Array Int} {m : Nat} (hm : 0 < m) : Lib.keeps d m = true ↔ d[m]! ≠ d[m - 1]! := by
  by_cases h : d[m]! = d[m - 1]!
  · rw [Lib.keeps_neg hm h]; simp [h]
  · rw [Lib.keeps_pos h]; simp [h]

theorem comp_inv {zs : List Int} (hs : zs.Pairwise (· ≤ ·)) : ∀ m, m ≤ zs.length → Strict (Lib.compactUpTo zs.toArray m) ∧ ∀ x, x ∈ Lib.compactUpTo zs.toArray m ↔ x ∈ zs.take m
  | 0, _ => by
    have : Lib.compactUpTo zs.toArray 0 = [] := by simp [Lib.compactUpTo]
    rw [this]; simp [Strict]
  | m + 1, hm => by
    obtain ⟨ih1, ih2⟩ := comp_inv hs m (by omega)
    have hmm : m < zs.length := by omega
    have e0 : zs.toArray[m]! = zs[m] := by simp [hmm]
    rw [Lib.compactUpTo_succ, e0]
    have htk : zs.take (m + 1) = zs.take m ++ [zs[m]] := by rw [List.take_append_getElem]
    have hle : ∀ x ∈ zs.take m, x ≤ zs[m] := by
      intro x hx
      rw [List.mem_take_iff_getElem] at hx
      obtain ⟨i, hi, rfl⟩ := hx
      exact List.pairwise_iff_getElem.1 hs i m (by omega) hmm (by omega)
    cases hk : Lib.keeps zs.toArray m with
    | true =>
      simp only [if_true]
      refine ⟨List.pairwise_append.2 ⟨ih1, by simp, fun x hx y hy => ?_⟩, fun x => ?_⟩
      · rw [List.mem_singleton] at hy; subst hy
        have hx' := (ih2 x).1 hx
        have h1 := hle x hx'
        rcases Nat.eq_zero_or_pos m with h0 | h0
        · subst h0; simp at hx'
        · have hne := (keeps_step h0).1 hk
          have e1 : zs.toArray[m - 1]! = zs[m - 1] := by simp [show m - 1 < zs.length by omega]
          rw [e0, e1] at hne
          rw [List.mem_take_iff_getElem] at hx'
          obtain ⟨i, hi, rfl⟩ := hx'
          have h2 : zs[i] ≤ zs[m - 1] := by
            rcases Nat.lt_or_ge i (m - 1) with h3 | h3
            · exact List.pairwise_iff_getElem.1 hs i (m - 1) (by omega) (by omega) h3
            · have : i = m - 1 := by omega
              subst this; exact Int.le_refl _
          have h3 : zs[m - 1] ≤ zs[m] := List.pairwise_iff_getElem.1 hs (m - 1) m (by omega) hmm (by omega)
          omega
      · rw [htk, List.mem_append, List.mem_append, ih2 x]
    | false =>
      simp only [Bool.false_eq_true, if_false, List.append_nil]
      refine ⟨ih1, fun x => ?_⟩
      rw [ih2 x, htk, List.mem_append, List.mem_singleton]
      refine ⟨.inl, fun h => h.elim id fun h => ?_⟩
      have h0 : 0 < m := by
        rcases Nat.eq_zero_or_pos m with h0 | h0
        · subst h0; simp [Lib.keeps] at hk
        · exact h0
      have he : ¬ (zs.toArray[m]! ≠ zs.toArray[m - 1]!) := fun hne => by rw [(keeps_step h0).2 hne] at hk; cases hk
      have e1 : zs.toArray[m - 1]! = zs[m - 1] := by simp [show m - 1 < zs.length by omega]
      rw [e0, e1] at he
      have he' : zs[m] = zs[m - 1] := Decidable.of_not_not he
      rw [h, he', List.mem_take_iff_getElem]
      exact ⟨m - 1, by omega, rfl⟩

def asc (l : List Int) : List Int := Lib.compact (sorted l)
theorem sorted_le (l : List Int) : (sorted l).Pairwise (· ≤ ·) := by
  have h := List.pairwise_mergeSort (le := fun x y : Int => decide (x ≤ y)) (fun a b c h1 h2 => by simp at *; omega) (fun a b => by simp; omega) l
  exact h.imp fun h => by simpa using h
theorem asc_strict (l : List Int) : Strict (asc l) := by
  have h := (comp_inv (sorted_le l) (sorted l).length (Nat.le_refl _)).1
  exact h
theorem asc_mem {l : List Int} {x : Int} : x ∈ asc l ↔ x ∈ l := by
  have h := (comp_inv (sorted_le l) (sorted l).length (Nat.le_refl _)).2 x
  rw [List.take_length] at h
  exact h.trans List.mem_mergeSort
theorem asc_len (l : List Int) : (asc l).length ≤ l.length := by
  have h := Lib.compact_length_le (sorted l)
  rw [List.length_mergeSort] at h; exact h
theorem asc_eq {a b : List Int} (h : ∀ x, x ∈ a ↔ x ∈ b) : asc a = asc b :=
  strict_eq (asc_strict a) (asc_strict b) fun x => by rw [asc_mem, asc_mem, h x]

def insA (l : List Int) (xs : List Int) : List Int := xs.foldl (fun l x => insM x l) l
theorem insA_strict {xs : List Int} : ∀ {l : List Int}, Strict l → Strict (insA l xs) := by
  induction xs with
  | nil => exact fun h => h
  | cons x xs ih => exact fun h => ih (l := insM x _) (ins_strict h)
theorem insA_mem {y : Int} {xs : List Int} : ∀ {l : List Int}, y ∈ insA l xs ↔ y ∈ l ∨ y ∈ xs := by
  induction xs with
  | nil => intro l; simp [insA]
  | cons x xs ih =>
    intro l
    show y ∈ insA (insM x l) xs ↔ _
    rw [ih, ins_mem, List.mem_cons]
    constructor
    · rintro ((h | h) | h) <;> simp [h]
    · rintro (h | h | h) <;> simp [h]
theorem insA_len {xs : List Int} : ∀ {l : List Int}, (insA l xs).length ≤ l.length + xs.length := by
  induction xs with
  | nil => intro l; simp [insA]
  | cons x xs ih =>
    intro l
    have h1 := ih (l := insM x l)
    have h2 := ins_len (x := x) (l := l)
    show (insA (insM x l) xs).length ≤ _
    rw [List.length_cons]; omega
theorem insA_append {xs ys : List Int} {l : List Int} : insA l (xs ++ ys) = insA (insA l xs) ys := by simp [insA]
theorem asc_insA (xs : List Int) : asc xs = insA [] xs :=
  strict_eq (asc_strict xs) (insA_strict List.Pairwise.nil) fun x => by rw [asc_mem, insA_mem]; simp
theorem insA_asc (l xs : List Int) : insA (asc l) xs = asc (l ++ xs) :=
  strict_eq (insA_strict (asc_strict l)) (asc_strict _) fun x => by rw [asc_mem, insA_mem, asc_mem, List.mem_append]
end Vg

namespace Go.Proofs
open Go.Shelf
def Try.lays189_ren : Go.Shelf.Ren := ⟨fun | 189 => 122 | 125 => 136 | 257 => 135 | 128 => 149 | 129 => 150 | 294 => 140 | 295 => 141 | 296 => 142 | 297 => 143 | 298 => 144 | 299 => 145 | 216 => 146 | 300 => 147 | 301 => 148 | 328 => 151 | 329 => 152 | 330 => 153 | 331 => 154 | 332 => 155 | 215 => 137 | 343 => 156 | n => n, fun | 28 => 29 | 3 => 3 | 46 => 75 | 0 => 0 | 51 => 143 | 53 => 145 | 4 => 4 | 183 => 137 | 182 => 136 | 131 => 140 | 5 => 5 | 9 => 9 | 218 => 146 | 222 => 150 | 228 => 152 | 229 => 41 | n => n, fun | n => n⟩
theorem Try.lays189 : Go.Proofs.Lays.n189 Try.prog Try.lays189_ren := {
  mixed := by kernel_rfl
  f125 := Try.func136.trans (congrArg some (by kernel_rfl))
  f128 := Try.func149.trans (congrArg some (by kernel_rfl))
  f129 := Try.func150.trans (congrArg some (by kernel_rfl))
  f189 := Try.func122.trans (congrArg some (by kernel_rfl))
  f215 := Try.func137.trans (congrArg some (by kernel_rfl))
  f216 := Try.func146.trans (congrArg some (by kernel_rfl))
  f257 := Try.func135.trans (congrArg some (by kernel_rfl))
  f294 := Try.func140.trans (congrArg some (by kernel_rfl))
  f295 := Try.func141.trans (congrArg some (by kernel_rfl))
  f296 := Try.func142.trans (congrArg some (by kernel_rfl))
  f297 := Try.func143.trans (congrArg some (by kernel_rfl))
  f298 := Try.func144.trans (congrArg some (by kernel_rfl))
  f299 := Try.func145.trans (congrArg some (by kernel_rfl))
  f300 := Try.func147.trans (congrArg some (by kernel_rfl))
  f301 := Try.func148.trans (congrArg some (by kernel_rfl))
  f328 := Try.func151.trans (congrArg some (by kernel_rfl))
  f329 := Try.func152.trans (congrArg some (by kernel_rfl))
  f330 := Try.func153.trans (congrArg some (by kernel_rfl))
  f331 := Try.func154.trans (congrArg some (by kernel_rfl))
  f332 := Try.func155.trans (congrArg some (by kernel_rfl))
  f343 := Try.func156.trans (congrArg some (by kernel_rfl))
  t0 := Try.underlying0
  a0 := Try.isAgg0
  z0 := Try.sizeOf0
  v0 := Try.zeroValue0
  t3 := Try.underlying3
  a3 := Try.isAgg3
  z3 := Try.sizeOf3
  v3 := Try.zeroValue3
  t4 := Try.underlying4
  a4 := Try.isAgg4
  z4 := Try.sizeOf4
  v4 := Try.zeroValue4
  t5 := Try.underlying5
  a5 := Try.isAgg5
  z5 := Try.sizeOf5
  v5 := Try.zeroValue5
  t9 := Try.underlying9
  a9 := Try.isAgg9
  z9 := Try.sizeOf9
  v9 := Try.zeroValue9
  t28 := Try.underlying29
  a28 := Try.isAgg29
  z28 := Try.sizeOf29
  v28 := Try.zeroValue29
  t46 := Try.underlying75
  a46 := Try.isAgg75
  z46 := Try.sizeOf75
  v46 := Try.zeroValue75
  t51 := Try.underlying143
  a51 := Try.isAgg143
  z51 := Try.sizeOf143
  v51 := Try.zeroValue143
  t53 := Try.underlying145
  a53 := Try.isAgg145
  z53 := Try.sizeOf145
  v53 := Try.zeroValue145
  t131 := Try.underlying140
  a131 := Try.isAgg140
  z131 := Try.sizeOf140
  v131 := Try.zeroValue140
  t182 := Try.underlying136
  a182 := Try.isAgg136
  z182 := Try.sizeOf136
  v182 := Try.zeroValue136
  t183 := Try.underlying137
  a183 := Try.isAgg137
  z183 := Try.sizeOf137
  v183 := Try.zeroValue137
  t218 := Try.underlying146
  a218 := Try.isAgg146
  z218 := Try.sizeOf146
  v218 := Try.zeroValue146
  t222 := Try.underlying150
  a222 := Try.isAgg150
  z222 := Try.sizeOf150
  v222 := Try.zeroValue150
  t228 := Try.underlying152
  a228 := Try.isAgg152
  z228 := Try.sizeOf152
  v228 := Try.zeroValue152
  t229 := Try.underlying41
  a229 := Try.isAgg41
  z229 := Try.sizeOf41
  v229 := Try.zeroValue41 }
def Try.laysNm220_ren : Go.Shelf.Ren := ⟨fun | 20 => 123 | n => n, fun | 22 => 29 | 3 => 3 | 4 => 4 | 0 => 0 | n => n, fun | n => n⟩
theorem Try.laysNm220 : Go.Proofs.Lays2.n20 Try.prog Try.laysNm220_ren := {
  mixed := by kernel_rfl
  f20 := Try.func123.trans (congrArg some (by kernel_rfl))
  t0 := Try.underlying0
  a0 := Try.isAgg0
  z0 := Try.sizeOf0
  v0 := Try.zeroValue0
  t3 := Try.underlying3
  a3 := Try.isAgg3
  z3 := Try.sizeOf3
  v3 := Try.zeroValue3
  t4 := Try.underlying4
  a4 := Try.isAgg4
  z4 := Try.sizeOf4
  v4 := Try.zeroValue4
  t22 := Try.underlying29
  a22 := Try.isAgg29
  z22 := Try.sizeOf29
  v22 := Try.zeroValue29
  i3 := by kernel_rfl }
end Go.Proofs

