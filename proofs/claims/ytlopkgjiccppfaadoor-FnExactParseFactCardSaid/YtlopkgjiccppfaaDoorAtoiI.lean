/- The library's strconv.Atoi as a contract. Conditions: the library's functions lie in the program; its two errors are as they were laid. -/
import Derived.Test.YtlopkgjiccppfaaDoorRet
import Derived.Shelf.Strconv.AtoiAll
namespace Vg
open Go Go.Proofs Go.Shelf Go.RowKit Go.Sort

/-- what Atoi answers: a number, and whether there is an error -/
def atoiX (s : ByteArray) : Int × Bool := match Lib.atoiAll s.data.toList with
  | .ok v => (v, false)
  | .range => (Lib.atoiSat s.data.toList, true)
  | _ => (0, true)
theorem atoi_post {w w' : World} {Im : Nat → Nat → Prop} {n : Int} {b : Bool} {v : Value} (hb : Below w.heap.size w w') (hlt : ∀ b o, Im b o → b < w.heap.size) (hv : RepD w'.heap Im (.err b) v) :
    ∃ v' res B' ρ' Im', Ending.returned (.tuple #[.int .i64 n, v]) = .returned v' ∧ (res = .tup [.dat (.i n), .dat (.err b)] ∧ B' = []) ∧ AVR ρ' w'.heap Im' res v' ∧ Env (fun j => B'[j]?) ρ' Im' w'.heap ∧
      Ext w .nil (im0Of Im false) (fun j => B'[j]?) ρ' Im' w' := by
  refine ⟨_, _, [], fun _ => none, Im, rfl, ⟨rfl, rfl⟩, ?_, ⟨fun i b hi => (by simp at hi), fun i j r s x hi => absurd rfl hi, fun i r hi => absurd rfl hi, fun i r x hi => absurd rfl hi, fun i r x o hi => absurd rfl hi, fun b o h => Nat.lt_of_lt_of_le (hlt b o h) hb.size, fun i b r o hi => (by simp at hi)⟩, ?_⟩
  · refine .tup _ _ (fun j => (#[.int .i64 n, v] : Array Value).getD j undef) rfl (fun j hj => ?_) (fun j a ha => ?_)
    · have : j = 0 ∨ j = 1 := by simp at hj; omega
      rcases this with rfl | rfl <;> rfl
    · match j, ha with
      | 0, ha => cases ha; exact .dat _ _ (.int _ _)
      | 1, ha => cases ha; exact .dat _ _ hv
  · exact ⟨fun i r x hi => absurd rfl hi, fun _ _ h => h, fun _ _ h => .inl h, fun b o h => hcell_of_block (hb.block b (hlt b o h)) o, fun b h _ => hb.block b h, hb.size, hb.os, hb.tape, hb.output, fun i p hp => (by cases hp)⟩
theorem atoiV {P : Program} {q : Ren} {f : FuncId} (L : LaysC.n172 P q) (hq : q.f 172 = f) (hf : ∃ fn, P.funcs[f]? = some fn ∧ (fn.name == "runtime.NumGoroutine") = false ∧ fn.body.isNone = false)
    (h15 : q.g 15 ∈ errCells) (h16 : q.g 16 ∈ errCells) (s : ByteArray) (hs : s.size ≤ 281474976710656) :
    CallsV P f [.dat (.str s)] (.tup [.dat (.i (atoiX s).1), .dat (.err (atoiX s).2)]) := by
  subst hq
  refine ⟨hf, fun w Im vs hz ha him => ?_⟩
  have a0 := ha 0 (.dat (.str s)) rfl
  have hv : vs = #[.string s] := by
    have hz' : vs.size = 1 := hz
    apply Array.ext
    · simpa using hz'
    · intro i hi hi'
      have : i = 0 := by simp at hi'; omega
      subst this
      cases a0 with
      | dat _ _ hd =>
        generalize hx : vs.getD 0 undef = x at hd
        cases hd
        simpa [Array.getD, hz'] using hx
  subst hv
  obtain ⟨_, ev, he1, he2⟩ := him.tab.err _ h15
  obtain ⟨_, ev', he1', he2'⟩ := him.tab.err _ h16
  unfold atoiX
  cases hA : Lib.atoiAll s.data.toList with
  | ok v =>
    refine (Any.strconv_Atoi_ok L s (by omega) v hA w).mono ?_
    rintro e w' ⟨rfl, hw⟩
    refine atoi_post (b := false) ?_ him.lt .errN
    rcases hw with rfl | ⟨t, rfl⟩
    · exact Below.refl _ _
    · exact Lib.bytesWorld_below _ _ _
  | range =>
    refine (Any.strconv_Atoi_range L s hs hA ev' w (by rw [cell?_eq]; exact he1') he2').mono ?_
    rintro e w' ⟨N, rfl, _, _, hb⟩
    exact atoi_post (b := true) hb him.lt (.errS _ _)
  | _ =>
    refine (Any.strconv_Atoi_syntax L s hs hA ev w (by rw [cell?_eq]; exact he1) he2).mono ?_
    rintro e w' ⟨N, rfl, _, _, hb⟩
    exact atoi_post (b := true) hb him.lt (.errS _ _)
end Vg
