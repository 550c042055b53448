/- Addresses, parts of tuples, literals of structs, slices of strings and rows. -/
import Derived.Test.YtjmgoefijnnooaaSound3
import Derived.Laws.Slices
import Derived.Laws.Tables
namespace Vg
open Go

section
variable {P : Program} {τ : Tys} {Im : Nat → Nat → Prop} {B : Nat → Option Blk} {ρ : Rho} {w : World}

theorem run_fieldAt {T f off E b o : Nat} {i : TyI} {l : List (Nat × Nat)} (ht : TyOk P T i) (hd : i.desc = .flds l) (hf : l[f]? = some (off, E)) :
    (Instr.fieldAt T (.pointer (some ⟨b, o, none⟩)) f).run P w = .ok (.pointer (some ⟨b, o + off, none⟩)) w := by
  obtain ⟨d, h1, _, h2⟩ := ht.und
  simp only [hd] at h2
  obtain ⟨fs, rfl, hsz, hall⟩ := h2
  obtain ⟨fd, hfd, rfl, rfl, x, hx, hx0⟩ := hall f off E hf
  have hs : (Go.sizeOf fd.type).run P w = .ok x.size w := by simp [Go.sizeOf, typeInfo, hx]
  simp only [Instr.fieldAt, Sem.run_bind, run_und h1, Result.andThen_ok, hfd, Instr.sureAddr, pure_bind, fieldPlace, hs, hx0, if_false, Sem.run_pure, Addr.add_some]

/-! ### the parts of a literal -/
theorem setCells_length : ∀ (vs : List AV) (cells : List AV) (off : Nat), (setCells cells off vs).length = cells.length
  | [], _, _ => rfl
  | v :: vs, cells, off => by simp [setCells, setCells_length vs]
theorem setCells_get : ∀ (vs : List AV) (cells : List AV) (off k : Nat), off + vs.length ≤ cells.length →
    (setCells cells off vs)[k]? = if off ≤ k ∧ k < off + vs.length then vs[k - off]? else cells[k]?
  | [], cells, off, k, _ => by simp [setCells]; omega
  | v :: vs, cells, off, k, h => by
    simp only [List.length_cons] at h
    rw [setCells, setCells_get vs _ _ _ (by simp; omega)]
    by_cases h1 : off + 1 ≤ k ∧ k < off + 1 + vs.length
    · rw [if_pos h1, if_pos (by simp; omega)]
      rw [show k - off = (k - (off + 1)) + 1 from by omega]; rfl
    · rw [if_neg h1]
      by_cases h2 : k = off
      · subst h2
        rw [if_pos (by simp), List.getElem?_set_self (by omega)]
        simp
      · rw [if_neg (by simp; omega), List.getElem?_set_ne (by omega)]

theorem fold_size (off : Nat) : ∀ (vs : List Value) (k0 : Nat) (cs : Array Value), ((vs.zipIdx k0).foldl (fun cs (x : Value × Nat) => cs.setIfInBounds (off + x.2) x.1) cs).size = cs.size
  | [], _, _ => rfl
  | v :: vs, k0, cs => by simp only [List.zipIdx_cons, List.foldl_cons]; rw [fold_size off vs]; simp
theorem fold_get (off : Nat) : ∀ (vs : List Value) (k0 : Nat) (cs : Array Value) (k : Nat), off + k0 + vs.length ≤ cs.size →
    ((vs.zipIdx k0).foldl (fun cs (x : Value × Nat) => cs.setIfInBounds (off + x.2) x.1) cs)[k]? = if off + k0 ≤ k ∧ k < off + k0 + vs.length then vs[k - (off + k0)]? else cs[k]?
  | [], k0, cs, k, _ => by simp; omega
  | v :: vs, k0, cs, k, h => by
    simp only [List.length_cons] at h
    simp only [List.zipIdx_cons, List.foldl_cons]
    rw [fold_get off vs (k0 + 1) _ k (by simp; omega)]
    by_cases h1 : off + (k0 + 1) ≤ k ∧ k < off + (k0 + 1) + vs.length
    · rw [if_pos h1, if_pos (by simp; omega)]
      rw [show k - (off + k0) = (k - (off + (k0 + 1))) + 1 from by omega]; rfl
    · rw [if_neg h1]
      by_cases h2 : k = off + k0
      · subst h2
        rw [if_pos (by simp)]
        simp [Array.getElem?_setIfInBounds]; omega
      · rw [if_neg (by simp; omega), Array.getElem?_setIfInBounds_ne (by omega)]

/-- abstract cells beside concrete ones -/
def CellsR (ρ : Rho) (h : Array Obj) (Im : Nat → Nat → Prop) (l : List AV) (cs : Array Value) : Prop :=
  cs.size = l.length ∧ ∀ (j : Nat) (x : AV), l[j]? = some x → ∃ c, cs[j]? = some c ∧ AVR ρ h Im x c

theorem CellsR.agg {h : Array Obj} {l : List AV} {cs : Array Value} (hc : CellsR ρ h Im l cs) : AVR ρ h Im (.agg l) (.agg cs) := by
  refine .agg l cs (fun j => cs.getD j undef) hc.1 (fun j hj => ?_) (fun j x hx => ?_)
  · have : j < cs.size := by rw [hc.1]; exact hj
    simp [this]
  · obtain ⟨c, h1, h2⟩ := hc.2 j x hx
    simpa [h1] using h2

theorem CellsR.fill {h : Array Obj} {l vs : List AV} {cs us : Array Value} {off : Nat} (hc : CellsR ρ h Im l cs) (hv : CellsR ρ h Im vs us) (ho : off + vs.length ≤ l.length) :
    CellsR ρ h Im (setCells l off vs) (us.zipIdx.foldl (fun cs (x : Value × Nat) => cs.setIfInBounds (off + x.2) x.1) cs) := by
  have e : us.zipIdx.foldl (fun cs (x : Value × Nat) => cs.setIfInBounds (off + x.2) x.1) cs = (us.toList.zipIdx 0).foldl (fun cs (x : Value × Nat) => cs.setIfInBounds (off + x.2) x.1) cs := by
    rw [← Array.foldl_toList, Array.toList_zipIdx]
  rw [e]
  have hul : us.toList.length = vs.length := by simpa using hv.1
  refine ⟨by rw [fold_size, setCells_length]; exact hc.1, fun j x hx => ?_⟩
  rw [setCells_get _ _ _ _ ho] at hx
  rw [fold_get off _ 0 cs j (by rw [hul, hc.1]; omega)]
  simp only [Nat.add_zero, hul]
  split at hx
  · rename_i hin
    rw [if_pos hin]
    obtain ⟨c, h1, h2⟩ := hv.2 _ x hx
    exact ⟨c, by simpa using h1, h2⟩
  · rename_i hin
    rw [if_neg hin]
    exact hc.2 j x hx

theorem zero_cells {i : TyI} (h : Array Obj) : CellsR ρ h Im (i.zero.map constC) i.zero.toArray := by
  refine ⟨by simp, fun j x hx => ?_⟩
  rw [List.getElem?_map] at hx
  cases hz : i.zero[j]? with
  | none => simp [hz] at hx
  | some v => simp [hz] at hx; subst hx; exact ⟨v, by simpa using hz, constC_rel h v⟩

theorem abuild_sound (hτ : TysOk P τ) {fl : List (Nat × Nat)} {e : Operand → AV} {ev' : Operand → Value} (hev : ∀ x, AVR ρ w.heap Im (e x) (ev' x))
    {place : Nat → Option (Nat × Nat)} (hpl : ∀ f off T i, fl[f]? = some (off, T) → τ T = some i → place f = some (off, i.size)) :
    ∀ (parts : List (Nat × Operand)) (cells : List AV) (cs : Array Value) (K : List AV → Prop), CellsR ρ w.heap Im cells cs → abuild τ fl e parts cells K →
      ∃ out, K out ∧ (∀ K', K' out → abuild τ fl e parts cells K') ∧ ∃ os, Instr.fill place cs (parts.map fun x => (x.1, ev' x.2)) = some os ∧ CellsR ρ w.heap Im out os
  | [], cells, cs, K, hc, h => ⟨cells, h, fun _ h => h, cs, rfl, hc⟩
  | (f, x) :: rest, cells, cs, K, hc, h => by
    simp only [abuild] at h ⊢
    cases hf : fl[f]? with
    | none => simp [hf] at h
    | some ot =>
      obtain ⟨off, T⟩ := ot
      simp only [hf] at h ⊢
      cases hT : τ T with
      | none => simp [hT] at h
      | some i =>
        simp only [hT] at h ⊢
        have hp := hpl f off T i hf hT
        simp only [List.map_cons, Instr.fill, hp]
        cases hag : i.agg with
        | true =>
          simp only [hag] at h ⊢
          have hx := hev x
          generalize e x = ex at h hx ⊢
          cases ex <;> try exact h.elim
          rename_i l
          simp only at h ⊢
          cases h1 : Nat.beq l.length i.size with
          | false => simp [h1] at h
          | true =>
            cases h2 : Nat.ble (off + i.size) cells.length with
            | false => simp [h1, h2] at h
            | true =>
              simp only [h1, h2] at h ⊢
              have e1 : l.length = i.size := Nat.eq_of_beq_eq_true h1
              have e2 := Nat.le_of_ble_eq_true h2
              have hv := hx.cells1 (l := l) rfl
              have hn : ¬ ((ev' x).cells.size ≠ i.size ∨ off + (ev' x).cells.size > cs.size) := by rw [hv.1, hc.1]; omega
              simp only [decide_eq_true_eq, Bool.or_eq_true, if_neg hn]
              exact abuild_sound hτ hev hpl rest _ _ K (hc.fill hv (by omega)) h
        | false =>
          simp only [hag] at h ⊢
          cases h1 : Nat.beq i.size 1 with
          | false => simp [h1] at h
          | true =>
            cases h2 : Nat.ble (off + 1) cells.length with
            | false => simp [h1, h2] at h
            | true =>
              cases h3 : (e x).oneC with
              | false => simp [h1, h2, h3] at h
              | true =>
                simp only [h1, h2, h3] at h ⊢
                have e1 : i.size = 1 := Nat.eq_of_beq_eq_true h1
                have e2 := Nat.le_of_ble_eq_true h2
                have hone := (hev x).one h3
                have hcells := cells_one hone
                have hv : CellsR ρ w.heap Im [e x] (ev' x).cells := by
                  rw [hcells]
                  refine ⟨rfl, fun j y hy => ?_⟩
                  cases j with
                  | zero => simp at hy; subst hy; exact ⟨_, rfl, hev x⟩
                  | succ j => simp at hy
                have hn : ¬ ((ev' x).cells.size ≠ i.size ∨ off + (ev' x).cells.size > cs.size) := by
                  have : (ev' x).cells.size = 1 := hv.1
                  rw [this, hc.1]; omega
                simp only [decide_eq_true_eq, Bool.or_eq_true, if_neg hn]
                exact abuild_sound hτ hev hpl rest _ _ K (hc.fill hv (by simpa using e2)) h
end
end Vg
