/- The library's decimal numerals (strconv.Itoa) as a contract. Conditions: the library's functions lie in the program; its table of powers of ten is as it was laid. -/
import Derived.Test.YtlopkgjiccppfaaDoorRet
import Derived.Shelf.Strconv.Itoa3
namespace Vg
open Go Go.Sort Go.Proofs Go.Shelf

/-- the cells of the table of powers of ten -/
def pow10C : List Value := Lib.pow10Tab.map (Value.int .u64)
theorem tab_is {P : Program} {w : World} {Im : Nat → Nat → Prop} {name : String} {k : IntKind} {zs : List Int} {g : Nat} (hT : TabH w.heap Im) (hg : P.globalNamed name = some g) (hm : (g, zs.map (Value.int k)) ∈ tabCells) (h0 : 0 < zs.length) : Lib.TabIs P w name k zs := by
  have hc : ∀ i, i ≤ zs.length → hcell w.heap g i = (zs.map (Value.int k))[i]? := fun i hi => (hT.tab _ hm i (by simpa using hi)).2
  unfold Lib.TabIs World.var?
  rw [hg]
  simp only [Option.bind_some]
  have h1 := hc 0 (by omega)
  unfold hcell at hc h1
  split
  · rename_i cs T f e
    rw [e] at hc
    simp only at hc
    congr 1
    apply Array.ext'
    apply List.ext_getElem?
    intro i
    rcases Nat.lt_or_ge i zs.length with hi | hi
    · simpa using hc i (by omega)
    · have hn := hc zs.length (Nat.le_refl _)
      have hs : cs.size ≤ zs.length := by
        rw [List.getElem?_eq_none (by simp)] at hn
        exact Array.getElem?_eq_none_iff.1 hn
      rw [List.getElem?_eq_none (by simpa using Nat.le_trans hs hi), List.getElem?_eq_none (by simpa using hi)]
  · rename_i hno
    exfalso
    split at h1
    · rename_i cs T f e
      exact hno _ _ _ e
    · rw [List.getElem?_map, List.getElem?_eq_getElem h0] at h1
      cases h1
theorem itoaV {P : Program} {q : Ren} {f : FuncId} {g : Nat} (L : LaysM.n171 P q) (hq : q.f 171 = f) (hf : ∃ fn, P.funcs[f]? = some fn ∧ (fn.name == "runtime.NumGoroutine") = false ∧ fn.body.isNone = false)
    (hg : P.globalNamed "internal/strconv.uint64pow10" = some g) (hm : (g, pow10C) ∈ tabCells) (n : Int) (h0 : -9223372036854775808 ≤ n) (h1 : n ≤ 9223372036854775807) :
    CallsV P f [.dat (.i n)] (.dat (.str ⟨(Lib.itoa n).toArray⟩)) := by
  subst hq
  refine ⟨hf, fun w Im vs hs ha him => ?_⟩
  have h2 := ha 0 (.dat (.i n)) rfl
  have hv : vs = #[.int .i64 n] := by
    have hs' : vs.size = 1 := hs
    apply Array.ext
    · simpa using hs'
    · intro i hi hi'
      have : i = 0 := by simp at hi'; omega
      subst this
      cases h2 with
      | dat _ _ hd =>
        generalize hx : vs.getD 0 undef = x at hd
        cases hd
        simpa [Array.getD, hs'] using hx
  subst hv
  refine (Any.strconv_Itoa L n h0 h1 w (tab_is him.tab hg hm (by simp [Lib.pow10Tab_length]))).mono ?_
  rintro e w' ⟨rfl, k, os, rfl⟩
  refine ⟨_, _, [], fun _ => none, fun _ _ => False, rfl, ⟨rfl, rfl⟩, .dat _ _ (.str _), ⟨fun i b hi => (by simp at hi), fun i j r s x hi => absurd rfl hi, fun i r hi => absurd rfl hi, fun i r x hi => absurd rfl hi, fun i r x o hi => absurd rfl hi, fun b o h => h.elim, fun i b r o hi => (by simp at hi)⟩, ?_⟩
  refine ⟨fun i r x hi => absurd rfl hi, fun b o h => h.elim, fun b o h => h.elim, fun b o h => h.elim, fun b hb _ => ?_, ?_, rfl, rfl, rfl, fun i p hp => (by cases hp)⟩
  · show (w.heap ++ os)[b]? = w.heap[b]?
    exact Array.getElem?_append_left hb
  · show w.heap.size ≤ (w.heap ++ os).size
    simp
/-- the table that a row lists is there at the beginning, and so are the errors and the numbers -/
theorem tabH_all {P : Program} {W : World} {name : String} {k : IntKind} {zs : List Int} {g : Nat} (hT : Lib.TabIs P W name k zs) (hg : P.globalNamed name = some g) (ht : tabCells = [(g, zs.map (Value.int k))])
    (he : ∀ g ∈ errCells, ∃ v, hcell W.heap g 0 = some v ∧ (v = .nilIface ∨ ∃ t x, v = .iface t x)) (hn : ∀ g ∈ numCells, ∃ m, hcell W.heap g 0 = some (.int .i64 m)) : TabH W.heap fun b _ => b < W.heap.size := by
  unfold Lib.TabIs World.var? at hT
  rw [hg] at hT
  simp only [Option.bind_some] at hT
  split at hT
  · rename_i cs T f e
    have hlt : g < W.heap.size := (Array.getElem?_eq_some_iff.1 e).1
    refine ⟨fun t hm i hi => ?_, fun g hm => ?_, fun g hm => ?_⟩
    · rw [ht] at hm
      obtain rfl := List.mem_singleton.1 hm
      refine ⟨hlt, ?_⟩
      simp only [hcell, e]
      rw [Option.some.inj hT]
      simp
    · obtain ⟨v, h1, h2⟩ := he g hm
      exact ⟨hcell_lt h1, v, h1, h2⟩
    · obtain ⟨m, h1⟩ := hn g hm
      exact ⟨hcell_lt h1, m, h1⟩
  · cases hT
theorem tabH_one {P : Program} {W : World} {name : String} {k : IntKind} {zs : List Int} {g : Nat} (hT : Lib.TabIs P W name k zs) (hg : P.globalNamed name = some g) (ht : tabCells = [(g, zs.map (Value.int k))]) (he : errCells = []) (hn : numCells = []) : TabH W.heap fun b _ => b < W.heap.size :=
  tabH_all hT hg ht (fun g h => by rw [he] at h; cases h) (fun g h => by rw [hn] at h; cases h)
end Vg
