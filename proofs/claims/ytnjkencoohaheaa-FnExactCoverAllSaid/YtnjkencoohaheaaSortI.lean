/- The library's sort of integers and its removal of equal neighbours, as contracts over a given row. Conditions: the library's functions lie in the program. -/
import Derived.Test.YtnjkencoohaheaaRet
import Derived.Shelf.Sort.Plain
import Derived.Shelf.Slices.In.SortNone
import Derived.Shelf.Slices.CompactI
import Derived.Sort.OwnSortedInts
import Derived.Lib.RowBridge
namespace Vg
open Go Go.Sort Go.Proofs Go.Shelf

/-- the cells of a row of integers -/
theorem ints_cells {h : Array Obj} {Im : Nat → Nat → Prop} {l : List Int} {cs : Array Value}
    (hcs : ∀ k j, k < l.length → j < K.sz .ints → ∃ c : Value, cs[k * K.sz .ints + j]? = some c ∧ RepD h Im (cellOf .ints l k j) c) :
    cs.toList.take l.length = l.map (Value.int .i64) := by
  apply List.ext_getElem?
  intro j
  by_cases hj : j < l.length
  · obtain ⟨c, h1, h2⟩ := hcs j 0 hj (by decide)
    rw [List.getElem?_take_of_lt hj, Array.getElem?_toList]
    simp only [K.sz, Nat.mul_one, Nat.add_zero] at h1
    rw [h1]
    have e : cellOf .ints l j 0 = .int .i64 l[j] := by simp [cellOf, K.enc, List.getElem?_eq_getElem hj]
    rw [e] at h2
    cases h2
    simp [hj]
  · rw [List.getElem?_take_eq_none (by omega), List.getElem?_eq_none (by simp; omega)]

theorem cells_ints {h : Array Obj} {Im : Nat → Nat → Prop} {l : List Int} {cs : Array Value} (ht : cs.toList.take l.length = l.map (Value.int .i64)) :
    ∀ k j, k < l.length → j < K.sz .ints → ∃ c : Value, cs[k * K.sz .ints + j]? = some c ∧ RepD h Im (cellOf .ints l k j) c := by
  intro k j hk hj
  have hj0 : j = 0 := by simp only [K.sz] at hj; omega
  subst hj0
  refine ⟨.int .i64 l[k], ?_, ?_⟩
  · have h1 : (cs.toList.take l.length)[k]? = (l.map (Value.int .i64))[k]? := by rw [ht]
    rw [List.getElem?_take_of_lt hk, Array.getElem?_toList] at h1
    simp only [K.sz, Nat.mul_one, Nat.add_zero]
    rw [h1]; simp [hk]
  · have e : cellOf .ints l k 0 = .int .i64 l[k] := by simp [cellOf, K.enc, List.getElem?_eq_getElem hk]
    rw [e]; exact .int .i64 _

theorem vs_one {vs : Array Value} {v : Value} (h : vs.size = 1) (e : vs.getD 0 undef = v) : vs = #[v] := by
  apply Array.ext (by simpa using h)
  intro i h1 h2
  have : i = 0 := by simp at h2; omega
  subst this
  simp at e ⊢
  rw [← e]; simp [h]

/-- one row of integers, turned in place -/
theorem one_row {w w' : World} {Im : Nat → Nat → Prop} {ρ ρ' : Rho} {T : Nat} {l l' : List Int} {r r' : RI} {cs : Array Value} {T0 : TypeId}
    (E : Env (fun j => [Blk.row T .ints l false][j]?) ρ Im w.heap) (hr : ρ 0 = some r) (hr' : ρ' 0 = some r') (e1 : r'.b = r.b) (e2 : r'.cap = r.cap) (e3 : r'.len = l'.length) (e4 : r'.fp = r.fp) (hl : l'.length ≤ l.length)
    (hh : w'.heap[r.b]? = some (.cells cs T0 (0, 0))) (hsz : cs.size = r.cap * 1) (ht : cs.toList.take l'.length = l'.map (Value.int .i64))
    (hf : ∀ b, b < w.heap.size → b ≠ r.b → w'.heap[b]? = w.heap[b]?) (hg : w.heap.size ≤ w'.heap.size) (ho : w'.os = w.os) (htp : w'.tape = w.tape) (hout : w'.output = w.output) :
    Env (fun j => [Blk.row T .ints l' false][j]?) ρ' Im w'.heap ∧ Ext w (.of 1 ρ) Im (fun j => [Blk.row T .ints l' false][j]?) ρ' Im w' := by
  have z : ∀ {i : Nat} {b : Blk}, (fun j => [Blk.row T .ints l' false][j]?) i = some b → i = 0 ∧ b = Blk.row T .ints l' false := fun {i b} hi => by
    cases i with
    | zero => cases hi; exact ⟨rfl, rfl⟩
    | succ i => cases hi
  have z' : ∀ {i : Nat}, (fun j => [Blk.row T .ints l' false][j]?) i ≠ none → i = 0 := fun {i} hi => by
    cases i with
    | zero => rfl
    | succ i => exact absurd rfl hi
  have n0 : (fun j => [Blk.row T .ints l false][j]?) 0 ≠ none := by simp
  have hb : r.b < w.heap.size := by
    have h0 := E.bl 0 _ rfl
    simp only [BlkR, hr] at h0
    obtain ⟨_, _, _, cs0, T1, h1, _⟩ := h0
    exact (Array.getElem?_eq_some_iff.1 h1).1
  have him : ∀ o, ¬ Im r.b o := fun o hI => by
    have := (E.imOwn 0 _ r o rfl hr).1 hI
    simp [Blk.pinned] at this
  have h0 := E.bl 0 _ rfl
  simp only [BlkR, hr] at h0
  obtain ⟨a1, a2, a3, _⟩ := h0
  have same : ∀ {x}, r'.has x → r.has x := fun {x} hx => by
    rcases hx with hx | hx
    · exact .inl (hx.trans e1)
    · exact .inr (e4 ▸ hx)
  refine ⟨⟨fun i b hi => ?_, fun i j r1 r2 x hi hj _ _ _ _ => (z' hi).trans (z' hj).symm, fun i r1 hi h1 => ?_, fun i r1 x hi h1 hx => ?_, fun i r1 x o hi h1 hx => ?_, fun b o hI => Nat.lt_of_lt_of_le (E.imlt b o hI) hg, fun i b r1 o hi h1 => ?_⟩,
    ⟨fun i r1 x hi h1 hx => ?_, fun _ _ h => h, fun b o h => .inl h, fun b o hI => ?_, fun b hb hG => ?_, hg, ho, htp, hout, fun i p hp => by cases hp⟩⟩
  · obtain ⟨rfl, rfl⟩ := z hi
    simp only [BlkR, hr']
    refine ⟨e3, by omega, by omega, cs, T0, by rw [e1]; exact hh, by rw [e2]; exact hsz, cells_ints ht⟩
  · obtain rfl := z' hi
    obtain rfl : r1 = r' := Option.some.inj (h1.symm.trans hr')
    rw [e4, e1]; exact E.fpNe 0 r n0 hr
  · obtain rfl := z' hi
    obtain rfl : r1 = r' := Option.some.inj (h1.symm.trans hr')
    rw [e4] at hx
    exact Nat.lt_of_lt_of_le (E.fpLt 0 r x n0 hr hx) hg
  · obtain rfl := z' hi
    obtain rfl : r1 = r' := Option.some.inj (h1.symm.trans hr')
    rw [e4] at hx
    exact E.fpIm 0 r x o n0 hr hx
  · obtain ⟨rfl, rfl⟩ := z hi
    obtain rfl : r1 = r' := Option.some.inj (h1.symm.trans hr')
    rw [e1]; exact E.imOwn 0 (.row T .ints l false) r o rfl hr
  · obtain rfl := z' hi
    obtain rfl : r1 = r' := Option.some.inj (h1.symm.trans hr')
    exact .inl ⟨0, r, by omega, hr, same hx⟩
  · have hne : b ≠ r.b := fun e => him o (e ▸ hI)
    exact hcell_of_block (hf b (E.imlt b o hI) hne) o
  · exact hf b hb fun e => hG ⟨0, r, by omega, hr, .inl e⟩

/-- no row -/
theorem no_row {w : World} {Im : Nat → Nat → Prop} {ρ : Rho} {T : Nat} {l : List Int}
    (_E : Env (fun j => [Blk.row T .ints l false][j]?) ρ Im w.heap) :
    Ext w (.of 1 ρ) Im (fun j => [Blk.row T .ints l false][j]?) ρ Im w := by
  refine ⟨fun i r1 x hi h1 hx => ?_, fun _ _ h => h, fun b o h => .inl h, fun b o hI => rfl, fun b hb hG => rfl, Nat.le_refl _, rfl, rfl, rfl, fun i p hp => by cases hp⟩
  cases i with
  | zero => exact .inl ⟨0, r1, by omega, h1, hx⟩
  | succ i => exact absurd rfl hi

abbrev sorted (l : List Int) : List Int := l.mergeSort fun x y => decide (x ≤ y)

theorem sortG {P : Program} {q : Ren} {f : FuncId} {T : Nat} {l : List Int} (L : Lays.n189 P q) (hq : q.f 189 = f)
    (hf : ∃ fn, P.funcs[f]? = some fn ∧ (fn.name == "runtime.NumGoroutine") = false ∧ fn.body.isNone = false) (hl : l.length < 4611686018427387904) :
    CallsG P f [.row 0] [.row T .ints l false] 1 (fun res B => res = .tup [] ∧ B = [.row T .ints (sorted l) false]) := by
  subst hq
  refine ⟨hf, fun w Im ρ vs hs ha E => ?_⟩
  have h0 := ha 0 (.row 0) rfl
  have hB := E.bl 0 _ rfl
  generalize hv : vs.getD 0 undef = v at h0
  obtain rfl := vs_one hs hv
  cases h0 with
  | row _ r hi =>
    simp only [BlkR, hi] at hB
    obtain ⟨a1, a2, a3, cs, T0, hh, hsz, hcs⟩ := hB
    have ht := ints_cells hcs
    rw [a1]
    refine (Any.slices_Sort_int L r.b 0 r.cap l w (holds_of_blockI hh ht) (Array.getElem?_eq_some_iff.1 hh).1 hl).mono fun e w' he => ?_
    obtain ⟨rfl, n, os, rfl⟩ := he
    have hlen : (sorted l).length = l.length := List.length_mergeSort l
    have hx := one_row (l' := sorted l) (r' := r) E hi hi rfl rfl (by omega) rfl (by omega) (heap_sortedI (n := n) (os := os) (sorted l).toArray hh) (by simpa [putCells, K.sz] using hsz)
      (take_putCellsI cs (sorted l) (by have : cs.size = r.cap * 1 := hsz; omega))
      (fun b hb hne => (grownBy_sortedI (w := w) (g := r.b) (n := n) (os := os) (sorted l).toArray).block b hb fun e => hne (Option.some.inj e))
      (grownBy_sortedI (w := w) (g := r.b) (n := n) (os := os) (sorted l).toArray).size rfl rfl rfl
    exact ⟨_, .tup [], _, ρ, Im, rfl, ⟨rfl, rfl⟩, .tup [] #[] (fun _ => undef) rfl (by simp) (by simp), hx.1, fun j hj => ⟨by simpa using hj, rfl⟩, hx.2⟩
  | rowN _ hi =>
    simp only [BlkR, hi] at hB
    obtain rfl : l = [] := List.eq_nil_of_length_eq_zero hB
    refine (Any.slices_Sort_int_none L none 0 w).mono fun e w' he => ?_
    obtain ⟨rfl, rfl⟩ := he
    exact ⟨_, .tup [], _, ρ, Im, rfl, ⟨rfl, rfl⟩, .tup [] #[] (fun _ => undef) rfl (by simp) (by simp), by simpa [sorted] using E, fun j hj => ⟨by simpa using hj, rfl⟩, by simpa [sorted] using no_row E⟩

theorem compactG {P : Program} {q : Ren} {f : FuncId} {T : Nat} {l : List Int} (L : Lays2.n20 P q) (hq : q.f 20 = f)
    (hf : ∃ fn, P.funcs[f]? = some fn ∧ (fn.name == "runtime.NumGoroutine") = false ∧ fn.body.isNone = false) (hl : l.length ≤ 9223372036854775807) :
    CallsG P f [.row 0] [.row T .ints l false] 0 (fun res B => res = .row 0 ∧ B = [.row T .ints (Lib.compact l) false]) := by
  subst hq
  refine ⟨hf, fun w Im ρ vs hs ha E => ?_⟩
  have h0 := ha 0 (.row 0) rfl
  have hB := E.bl 0 _ rfl
  generalize hv : vs.getD 0 undef = v at h0
  obtain rfl := vs_one hs hv
  cases h0 with
  | row _ r hi =>
    simp only [BlkR, hi] at hB
    obtain ⟨a1, a2, a3, cs, T0, hh, hsz, hcs⟩ := hB
    have ht := ints_cells hcs
    rw [a1]
    refine (Any.slices_Compact_int L r.b 0 r.cap l w (holds_of_blockI hh ht) hl (by omega)).mono fun e w' he => ?_
    obtain ⟨rfl, n, rfl⟩ := he
    have hle := Lib.compact_length_le l
    generalize hd : Lib.compact l ++ List.replicate (l.length - (Lib.compact l).length) 0 = d
    have hdl : d.length = l.length := by subst hd; simp; omega
    have hdt : d.take (Lib.compact l).length = Lib.compact l := by subst hd; simp
    have hpt := take_putCellsI cs d (by have : cs.size = r.cap * 1 := hsz; omega)
    have hg0 : grow (putRow (Value.int .i64) (Sort.ahead w n) r.b 0 d.toArray) #[] = putRow (Value.int .i64) (Sort.ahead w n) r.b 0 d.toArray := by unfold grow; rw [Array.append_empty]
    have hx := one_row (w' := putRow (Value.int .i64) (Sort.ahead w n) r.b 0 d.toArray) (l' := Lib.compact l) (r' := ⟨r.b, r.cap, (Lib.compact l).length, r.fp⟩) (ρ' := updR ρ 0 (some ⟨r.b, r.cap, (Lib.compact l).length, r.fp⟩)) E hi (updR_same _ _ _) rfl rfl rfl rfl hle
      (hg0 ▸ heap_sortedI (n := n) (os := #[]) d.toArray hh) (by simpa [putCells, K.sz] using hsz)
      (by
        have e := congrArg (List.take (Lib.compact l).length) hpt
        rw [List.take_take, Nat.min_eq_left (by omega), ← List.map_take, hdt] at e
        exact e)
      (fun b hb hne => by have := (grownBy_sortedI (w := w) (g := r.b) (n := n) (os := #[]) d.toArray).block b hb fun e => hne (Option.some.inj e); rwa [hg0] at this)
      (by have := (grownBy_sortedI (w := w) (g := r.b) (n := n) (os := #[]) d.toArray).size; rwa [hg0] at this) rfl rfl rfl
    exact ⟨_, .row 0, _, _, Im, rfl, ⟨rfl, rfl⟩, .row 0 ⟨r.b, r.cap, (Lib.compact l).length, r.fp⟩ (updR_same _ _ _), hx.1, fun j hj => absurd hj (by omega), hx.2⟩
  | rowN _ hi =>
    simp only [BlkR, hi] at hB
    obtain rfl : l = [] := List.eq_nil_of_length_eq_zero hB
    refine (Any.slices_Compact_int_empty L none 0 w).mono fun e w' he => ?_
    obtain ⟨rfl, rfl⟩ := he
    have hc : Lib.compact ([] : List Int) = [] := List.eq_nil_of_length_eq_zero (Nat.le_zero.1 (Lib.compact_length_le []))
    exact ⟨_, .row 0, _, ρ, Im, rfl, ⟨rfl, rfl⟩, .rowN 0 hi, by rw [hc]; exact E, fun j hj => absurd hj (by omega), by rw [hc]; exact no_row E⟩
end Vg
