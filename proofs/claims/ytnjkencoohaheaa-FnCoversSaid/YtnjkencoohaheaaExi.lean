/- Contracts that say 'there are ..': weaker ones, and such that hand back data. No condition. -/
import Derived.Test.YtnjkencoohaheaaRet
namespace Vg
open Go

theorem CallsG.mono {P : Program} {f : FuncId} {args : List AV} {Bg : List Blk} {k : Nat} {R R' : AV → List Blk → Prop} (h : CallsG P f args Bg k R) (hR : ∀ res B, R res B → R' res B) : CallsG P f args Bg k R' := by
  refine ⟨h.1, fun w Im ρ vs h1 h2 h3 => ?_⟩
  refine (h.2 w Im ρ vs h1 h2 h3).mono fun e w' he => ?_
  obtain ⟨v, res, B', ρ', Im', he, hRR, hX⟩ := he
  exact ⟨v, res, B', ρ', Im', he, hR _ _ hRR, hX⟩
theorem CallsF.mono {P : Program} {f : FuncId} {args : List AV} {fr : Bool} {R R' : AV → List Blk → Prop} (h : CallsF P f args fr R) (hR : ∀ res B, R res B → R' res B) : CallsF P f args fr R' := by
  refine ⟨h.1, fun w Im vs h1 h2 h3 => ?_⟩
  refine (h.2 w Im vs h1 h2 h3).mono fun e w' he => ?_
  obtain ⟨v, res, B', ρ', Im', he, hRR, hX⟩ := he
  exact ⟨v, res, B', ρ', Im', he, hR _ _ hRR, hX⟩

/-- what is handed back is given up: data out of new memory -/
theorem CallsF.toE {P : Program} {f : FuncId} {args : List AV} {fr : Bool} {R : AV → List Blk → Prop} {Q : AV → Prop} (hc : CallsF P f args fr R) (hR : ∀ res B', R res B' → ∃ X, Q X ∧ frz B' X res) :
    CallsF P f args fr fun res B => Q res ∧ B = [] := by
  obtain ⟨hfn, hc⟩ := hc
  refine ⟨hfn, fun w Im vs hsz hargs him => ?_⟩
  refine (hc w Im vs hsz hargs him).mono fun e w' ⟨v, res, B', ρ', Im', he, hRR, hav, henv, hext⟩ => ?_
  obtain ⟨X, hQ, hF⟩ := hR _ _ hRR
  let Pin : Nat → Prop := fun b => ∃ i r, B'[i]? ≠ none ∧ ρ' i = some r ∧ r.has b
  let Im2 : Nat → Nat → Prop := fun b o => Im' b o ∨ Pin b
  have hrow : ∀ i κ l, (∃ T sh, B'[i]? = some (.row T κ l sh)) ∨ (∃ T, B'[i]? = some (.tree T κ l)) → ∀ u, AVR ρ' w'.heap Im' (.row i) u → RepD w'.heap Im2 (.seq κ l) u := by
    intro i κ l hb u hu
    have fin : ∀ (r : RI) (cs : Array Value) (T : Nat), B'[i]? ≠ none → ρ' i = some r → w'.heap[r.b]? = some (.cells cs T (0, 0)) → r.len = l.length → r.len ≤ r.cap → r.cap ≤ maxLen →
        (∀ k j, k < l.length → j < κ.sz → ∃ c : Value, cs[k * κ.sz + j]? = some c ∧ RepD w'.heap Im2 (cellOf κ l k j) c) → RepD w'.heap Im2 (.seq κ l) (.slice (some ⟨r.b, 0, none⟩) r.len r.cap) := by
      intro r cs T hi hr h4 h1 h2 h3 h6
      have hcell' : ∀ k j, k < l.length → j < κ.sz → hcell w'.heap r.b (0 + k * κ.sz + j) = some (cs.getD (k * κ.sz + j) undef) := fun k j hk hj => by
        obtain ⟨c, hcc, _⟩ := h6 k j hk hj
        simp [hcell, h4, hcc, Array.getD_eq_getD_getElem?]
      have hlen : l.length ≤ r.cap := by omega
      rw [h1]
      refine .seq κ l r.b 0 r.cap (fun k j => cs.getD (k * κ.sz + j) undef) hlen h3 (fun k j hk hj => .inr ⟨i, r, hi, hr, .inl rfl⟩) hcell' (fun k j hk hj => ?_)
      obtain ⟨c, hcc, hcr⟩ := h6 k j hk hj
      simp only [Array.getD_eq_getD_getElem?, hcc, Option.getD_some]
      exact hcr
    rcases hb with ⟨T, sh, hb⟩ | ⟨T, hb⟩
    · have hB := henv.bl i _ hb
      cases hu with
      | rowN i hi => simp only [BlkR, hi] at hB; exact .empty κ l hB _ _
      | row i r hi =>
        simp only [BlkR, hi] at hB
        obtain ⟨h1, h2, h3, cs, T0, h4, h5, h6⟩ := hB
        refine fin r cs T0 (by simp [hb]) hi h4 h1 h2 h3 fun k j hk hj => ?_
        obtain ⟨c, hcc, hcr⟩ := h6 k j hk hj
        exact ⟨c, hcc, hcr.mono (fun _ _ _ => rfl) (fun _ _ => .inl)⟩
    · have hB := henv.bl i _ hb
      cases hu with
      | rowN i hi => simp only [BlkR, hi] at hB; exact .empty κ l hB _ _
      | row i r hi =>
        simp only [BlkR, hi] at hB
        obtain ⟨h1, h2, h3, cs, Fk, T0, h4, h5, hFF, _, h6⟩ := hB
        refine fin r cs T0 (by simp [hb]) hi h4 h1 h2 h3 fun k j hk hj => ?_
        obtain ⟨c, hcc, hcr⟩ := h6 k j hk hj
        exact ⟨c, hcc, hcr.melt fun x o hx => .inr ⟨i, r, by simp [hb], hi, .inr (hFF k j x hk hj hx).1⟩⟩
  have hX := frz_R (ρ' := fun _ => none) hF hav hrow (fun _ _ => .inl)
  have hnew : ∀ {b}, Pin b → w.heap.size ≤ b := fun {b} ⟨i, r, hb, hi, hx⟩ => (hext.own i r b hb hi hx).elim (fun h => h.elim) id
  have hlt : ∀ {b}, Pin b → b < w'.heap.size := fun {b} ⟨i, r, hb, hi, hx⟩ => henv.lt hb hi hx
  refine ⟨v, X, [], fun _ => none, Im2, he, ⟨hQ, rfl⟩, hX, ⟨fun i b hi => (by simp at hi), fun i j r s x hi => absurd rfl hi, fun i r hi => absurd rfl hi, fun i r x hi => absurd rfl hi, fun i r x o hi => absurd rfl hi, fun b o h => h.elim (henv.imlt b o) hlt, fun i b r o hi => (by simp at hi)⟩,
    ⟨fun i r x hi => absurd rfl hi, fun b o h => .inl (hext.im0 b o h), fun b o h => h.elim (hext.imNew b o) fun h => .inr (.inr (hnew h)), hext.keep, hext.frame, hext.grow, hext.os, hext.tape, hext.output, fun _ _ h => by cases h⟩⟩
end Vg
