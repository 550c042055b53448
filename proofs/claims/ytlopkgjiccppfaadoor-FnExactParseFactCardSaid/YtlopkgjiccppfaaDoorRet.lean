/- Results of contracts in other shapes: a nil slice as a row, a tree given up. No condition. -/
import Derived.Test.YtlopkgjiccppfaaDoorTop
namespace Vg
open Go

/-- a nil slice may stand for a row without elements -/
theorem CallsF.nilRow {P : Program} {f : FuncId} {args : List AV} {fr : Bool} {T : Nat} {κ : K} {l : List κ.T} (h : CallsF P f args fr fun res B => (res = .nils ∧ B = [] ∧ l.length = 0) ∨ (res = .row 0 ∧ B = [.row T κ l false])) :
    CallsF P f args fr fun res B => res = .row 0 ∧ B = [.row T κ l false] := by
  refine ⟨h.1, fun w Im vs h1 h2 h3 => ?_⟩
  refine (h.2 w Im vs h1 h2 h3).mono fun e w' he => ?_
  obtain ⟨v, res, B', ρ', Im', rfl, hR, hv, hE, hX⟩ := he
  rcases hR with ⟨rfl, rfl, hl⟩ | ⟨rfl, rfl⟩
  · obtain rfl := nils_val hv
    refine ⟨_, .row 0, [.row T κ l false], fun _ => none, Im', rfl, ⟨rfl, rfl⟩, .rowN 0 rfl, ⟨fun i b hi => ?_, fun i j r s x _ _ hr => (by cases hr), fun i r _ hr => (by cases hr), fun i r x _ hr => (by cases hr), fun i r x o _ hr => (by cases hr), hE.imlt, fun i b r o _ hr => (by cases hr)⟩,
      ⟨fun i r x _ hr => (by cases hr), hX.im0, hX.imNew, hX.keep, hX.frame, hX.grow, hX.os, hX.tape, hX.output, fun i p hp => (by cases hp)⟩⟩
    cases i with
    | zero => cases hi; exact hl
    | succ i => cases hi
  · exact ⟨_, _, _, ρ', Im', rfl, ⟨rfl, rfl⟩, hv, hE, hX⟩

/-- a tree that is handed back is data -/
theorem CallsF.melt {P : Program} {f : FuncId} {args : List AV} {fr : Bool} {T : Nat} {κ : K} {l : List κ.T} (h : CallsF P f args fr fun res B => res = .row 0 ∧ B = [.tree T κ l]) :
    CallsF P f args fr fun res B => res = .dat (.seq κ l) ∧ B = [] := by
  refine ⟨h.1, fun w Im vs h1 h2 h3 => ?_⟩
  refine (h.2 w Im vs h1 h2 h3).mono fun e w' he => ?_
  obtain ⟨v, res, B', ρ', Im', rfl, ⟨rfl, rfl⟩, hv, hE, hX⟩ := he
  have hi : (fun j => [Blk.tree T κ l][j]?) 0 = some (.tree T κ l) := rfl
  have hiN : (fun j => [Blk.tree T κ l][j]?) 0 ≠ none := by simp
  refine ⟨v, .dat (.seq κ l), [], ρ', fun b o => Im' b o ∨ ∃ r, ρ' 0 = some r ∧ r.has b, rfl, ⟨rfl, rfl⟩, .dat _ _ (tree_dat hE hi hv fun r x o hr hx => .inr ⟨r, hr, hx⟩),
    ⟨fun i b hb => (by simp at hb), fun i j r s x hb => (by simp at hb), fun i r hb => (by simp at hb), fun i r x hb => (by simp at hb), fun i r x o hb => (by simp at hb), fun b o hb => ?_, fun i b r o hb => (by simp at hb)⟩,
    ⟨fun i r x hb => (by simp at hb), fun b o hb => .inl (hX.im0 b o hb), fun b o hb => ?_, hX.keep, hX.frame, hX.grow, hX.os, hX.tape, hX.output, fun i p hp => (by cases hp)⟩⟩
  · rcases hb with hb | ⟨r, hr, hx⟩
    · exact hE.imlt b o hb
    · exact hE.lt hiN hr hx
  · rcases hb with hb | ⟨r, hr, hx⟩
    · exact hX.imNew b o hb
    · exact .inr (hX.own 0 r b hiN hr hx)
end Vg
