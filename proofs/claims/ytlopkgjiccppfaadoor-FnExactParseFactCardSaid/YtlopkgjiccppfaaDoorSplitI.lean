/- The library's strings.Split as a contract. Conditions: the library's functions lie in the program; the separator is not empty; the variable that the library's search reads holds some number. -/
import Derived.Test.YtlopkgjiccppfaaDoorRet
import Derived.Shelf.Strings.Split
namespace Vg
open Go Go.Proofs Go.Shelf

theorem splitF {P : Program} {q : Ren} {f : FuncId} {T : Nat} (L : Lays.n146 P q) (hq : q.f 146 = f) (hT : q.t 9 = T) (hi9 : (P.info? (q.t 9)).map (fun i => (i.zero, i.size, i.bytes)) = some (some (.string ByteArray.empty), 1, 16))
    (hf : ∃ fn, P.funcs[f]? = some fn ∧ (fn.name == "runtime.NumGoroutine") = false ∧ fn.body.isNone = false) (hg : q.g 1 ∈ numCells)
    (s sep : ByteArray) (hs : s.size < 4294967281) (h1 : 1 ≤ sep.size) (hlen : (Lib.splitB sep 0 (Lib.countB s sep) s).length = Lib.countB s sep + 1) (hmax : Lib.countB s sep + 1 ≤ maxLen) :
    CallsF P f [.dat (.str s), .dat (.str sep)] true (fun res B => res = .row 0 ∧ B = [.row T .strs (Lib.splitB sep 0 (Lib.countB s sep) s) false]) := by
  subst hq hT
  refine ⟨hf, fun w Im vs hz ha him => ?_⟩
  have a0 := ha 0 (.dat (.str s)) rfl
  have a1 := ha 1 (.dat (.str sep)) rfl
  have hv : vs = #[.string s, .string sep] := by
    have hz' : vs.size = 2 := hz
    apply Array.ext
    · simpa using hz'
    · intro i hi hi'
      have : i = 0 ∨ i = 1 := by simp at hi'; omega
      rcases this with rfl | rfl
      · cases a0 with
        | dat _ _ hd =>
          generalize hx : vs.getD 0 undef = x at hd
          cases hd
          simpa [Array.getD, hz'] using hx
      · cases a1 with
        | dat _ _ hd =>
          generalize hx : vs.getD 1 undef = x at hd
          cases hd
          simpa [Array.getD, hz'] using hx
  subst hv
  obtain ⟨_, m, hm⟩ := him.tab.num _ hg
  refine (Any.strings_Split L hi9 s sep m w hs (by rw [cell?_eq]; exact hm) h1).mono ?_
  rintro e w' ⟨rfl, rfl⟩
  generalize hp : Lib.splitB sep 0 (Lib.countB s sep) s = parts at hlen ⊢
  have hb : (w.alloc (.cells (parts.map Value.string).toArray (q.t 9))).heap[w.heap.size]? = some (.cells (parts.map Value.string).toArray (q.t 9) (0, 0)) := by
    show (w.heap.push _)[w.heap.size]? = _
    rw [Array.getElem?_push_size]
  have hlt : w.heap.size < (w.alloc (.cells (parts.map Value.string).toArray (q.t 9))).heap.size := by
    show w.heap.size < (w.heap.push _).size
    rw [Array.size_push]; omega
  refine ⟨_, .row 0, [.row (q.t 9) .strs parts false], fun i => if i = 0 then some (RI.at w.heap.size parts.length parts.length) else none, fun _ _ => False, rfl, ⟨rfl, rfl⟩, ?_, ?_, ?_⟩
  · rw [← hlen]
    exact .row 0 (RI.at w.heap.size parts.length parts.length) rfl
  · have one : ∀ {i : Nat} {r : RI}, (if i = 0 then some (RI.at w.heap.size parts.length parts.length) else none) = some r → i = 0 ∧ r = RI.at w.heap.size parts.length parts.length := fun {i r} h => by
      split at h
      · exact ⟨by assumption, (Option.some.inj h).symm⟩
      · cases h
    refine ⟨fun i b hi => ?_, fun i j r s x _ _ hr hs _ _ => (one hr).1.trans (one hs).1.symm, fun i r _ hr => ?_, fun i r x _ hr hx => ?_, fun i r x o _ hr hx => ?_, fun b o h => h.elim, fun i b r o hi hr => ?_⟩
    · cases i with
      | succ i => simp at hi
      | zero =>
        simp at hi
        subst hi
        refine ⟨rfl, Nat.le_refl _, by show parts.length ≤ maxLen; omega, _, _, hb, by simp [K.sz], fun k j hk hj => ?_⟩
        obtain rfl : j = 0 := by have : j < 1 := hj; omega
        refine ⟨.string (parts.getD k K.strs.dflt), ?_, .str _⟩
        show (parts.map Value.string).toArray[k * 1 + 0]? = _
        simp [List.getD_eq_getElem?_getD, List.getElem?_eq_getElem hk]
    · rw [(one hr).2]; exact fun h => h
    · rw [(one hr).2] at hx; exact hx.elim
    · rw [(one hr).2] at hx; exact hx.elim
    · cases i with
      | succ i => simp at hi
      | zero =>
        simp at hi
        subst hi
        exact ⟨fun h => h.elim, fun h => absurd h (Nat.not_lt_zero _)⟩
  · refine ⟨fun i r x _ hr hx => ?_, fun b o h => h.elim, fun b o h => h.elim, fun b o h => h.elim, fun b hb' _ => ?_, Nat.le_of_lt hlt, rfl, rfl, rfl, fun i p hp => (by cases hp)⟩
    · have hr' : r = RI.at w.heap.size parts.length parts.length := by
        split at hr
        · exact (Option.some.inj hr).symm
        · cases hr
      subst hr'
      rcases hx with rfl | hx
      · exact .inr (Nat.le_refl _)
      · exact hx.elim
    · show (w.heap.push _)[b]? = _
      exact Array.getElem?_push_lt hb' |>.trans (Array.getElem?_eq_getElem hb').symm
end Vg
