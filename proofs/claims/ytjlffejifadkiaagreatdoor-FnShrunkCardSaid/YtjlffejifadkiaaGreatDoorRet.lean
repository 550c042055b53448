/- Results of contracts in other shapes: a nil slice as a row, a tree given up. No condition. -/
import Derived.Test.YtjlffejifadkiaaGreatDoorTy
import Derived.Shelf.Small.Strs
namespace Vg
open Go
theorem CallsF.nilRow {P : Program} {f : FuncId} {args : List AV} {fr : Bool} {T : Nat} {κ : K} {l : List κ.T} (h : CallsF P f args fr fun res B => (res = .nils ∧ B = [] ∧ l.length = 0) ∨ (res = .row 0 ∧ B = [.row T κ l false])) :
 CallsF P f args fr fun res B => res = .row 0 ∧ B = [.row T κ l false] := by
 refine ⟨h.1, fun w Im vs h1 h2 h3 => ?_⟩
 refine (h.2 w Im vs h1 h2 h3).mono fun e w' he => ?_
 obtain ⟨v, res, B', ρ', Im', rfl, hR, hv, hE, hX⟩ := he
 rcases hR with ⟨rfl, rfl, hl⟩ | ⟨rfl, rfl⟩
 · obtain rfl := cG hv
   refine ⟨_, .row 0, [.row T κ l false], fun _ => none, Im', rfl, ⟨rfl, rfl⟩, .rowN 0 rfl, ⟨fun i b hi => ?_, fun i j r s x _ _ hr => (by cases hr), fun i r _ hr => (by cases hr), fun i r x _ hr => (by cases hr), fun i r x o _ hr => (by cases hr), hE.imlt, fun i b r o _ hr => (by cases hr)⟩,
    ⟨fun i r x _ hr => (by cases hr), hX.im0, hX.imNew, hX.keep, hX.frame, hX.grow, hX.os, hX.tape, hX.output, fun i p hp => (by cases hp)⟩⟩
   cases i with
   | zero => cases hi; exact hl
   | succ i => cases hi
 · exact ⟨_, _, _, ρ', Im', rfl, ⟨rfl, rfl⟩, hv, hE, hX⟩
theorem CallsF.melt {P : Program} {f : FuncId} {args : List AV} {fr : Bool} {T : Nat} {κ : K} {l : List κ.T} (h : CallsF P f args fr fun res B => res = .row 0 ∧ B = [.tree T κ l]) :
 CallsF P f args fr fun res B => res = .dat (.seq κ l) ∧ B = [] := by
 refine ⟨h.1, fun w Im vs h1 h2 h3 => ?_⟩
 refine (h.2 w Im vs h1 h2 h3).mono fun e w' he => ?_
 obtain ⟨v, res, B', ρ', Im', rfl, ⟨rfl, rfl⟩, hv, hE, hX⟩ := he
 have hi : (fun j => [Blk.tree T κ l][j]?) 0 = some (.tree T κ l) := rfl
 have hiN : (fun j => [Blk.tree T κ l][j]?) 0 ≠ none := by simp
 refine ⟨v, .dat (.seq κ l), [], ρ', fun b o => Im' b o ∨ ∃ r, ρ' 0 = some r ∧ r.has b, rfl, ⟨rfl, rfl⟩, .dat _ _ (lP hE hi hv fun r x o hr hx => .inr ⟨r, hr, hx⟩),
  ⟨fun i b hb => (by simp at hb), fun i j r s x hb => (by simp at hb), fun i r hb => (by simp at hb), fun i r x hb => (by simp at hb), fun i r x o hb => (by simp at hb), fun b o hb => ?_, fun i b r o hb => (by simp at hb)⟩,
  ⟨fun i r x hb => (by simp at hb), fun b o hb => .inl (hX.im0 b o hb), fun b o hb => ?_, hX.keep, hX.frame, hX.grow, hX.os, hX.tape, hX.output, fun i p hp => (by cases hp)⟩⟩
 · rcases hb with hb | ⟨r, hr, hx⟩
   · exact hE.imlt b o hb
   · exact hE.lt hiN hr hx
 · rcases hb with hb | ⟨r, hr, hx⟩
   · exact hX.imNew b o hb
   · exact .inr (hX.own 0 r b hiN hr hx)
theorem CallsG.mono {P : Program} {f : FuncId} {args : List AV} {Bg : List Blk} {k : Nat} {R R' : AV → List Blk → Prop} (h : CallsG P f args Bg k R) (hR : ∀ res B, R res B → R' res B) : CallsG P f args Bg k R' := by
 refine ⟨h.1, fun w Im ρ vs h1 h2 h3 h4 => ?_⟩
 refine (h.2 w Im ρ vs h1 h2 h3 h4).mono fun e w' he => ?_
 obtain ⟨v, res, B', ρ', Im', he, hRR, hX⟩ := he
 exact ⟨v, res, B', ρ', Im', he, hR _ _ hRR, hX⟩
theorem CallsF.mono {P : Program} {f : FuncId} {args : List AV} {fr : Bool} {R R' : AV → List Blk → Prop} (h : CallsF P f args fr R) (hR : ∀ res B, R res B → R' res B) : CallsF P f args fr R' := by
 refine ⟨h.1, fun w Im vs h1 h2 h3 => ?_⟩
 refine (h.2 w Im vs h1 h2 h3).mono fun e w' he => ?_
 obtain ⟨v, res, B', ρ', Im', he, hRR, hX⟩ := he
 exact ⟨v, res, B', ρ', Im', he, hR _ _ hRR, hX⟩
theorem CallsF.toE {P : Program} {f : FuncId} {args : List AV} {fr : Bool} {R : AV → List Blk → Prop} {Q : AV → Prop} (hc : CallsF P f args fr R) (hR : ∀ res B', R res B' → ∃ X, Q X ∧ frz B' X res) :
 CallsF P f args fr fun res B => Q res ∧ B = [] := by
 obtain ⟨hfn, hc⟩ := hc
 refine ⟨hfn, fun w Im vs hsz hargs him => ?_⟩
 refine (hc w Im vs hsz hargs him).mono fun e w' ⟨v, res, B', ρ', Im', he, hRR, hav, henv, hext⟩ => ?_
 obtain ⟨X, hQ, hF⟩ := hR _ _ hRR
 let Pin : Nat → Prop := fun b => ∃ i r, B'[i]? ≠ none ∧ ρ' i = some r ∧ r.has b
 let Im2 : Nat → Nat → Prop := fun b o => Im' b o ∨ Pin b
 have hrow : ∀ i κ l, (∃ T sh, B'[i]? = some (.row T κ l sh)) ∨ (∃ T, B'[i]? = some (.tree T κ l)) → ∀ u, AVR ρ' w'.heap Im' (.row i) u → RepD w'.heap Im2 (.seq κ l) u := by
  intro i κ l hb u hu
  have fin : ∀ (r : RI) (cs : Array Value) (T : Nat), B'[i]? ≠ none → ρ' i = some r → w'.heap[r.b]? = some (.cells cs T (0, 0)) → r.len = l.length → r.len ≤ r.cap → r.cap ≤ maxLen →
   (∀ k j, k < l.length → j < κ.sz → ∃ c : Value, cs[k * κ.sz + j]? = some c ∧ RepD w'.heap Im2 (l6 κ l k j) c) → RepD w'.heap Im2 (.seq κ l) (.slice (some ⟨r.b, 0, none⟩) r.len r.cap) := by
   intro r cs T hi hr h4 h1 h2 h3 h6
   have hcell' : ∀ k j, k < l.length → j < κ.sz → hcell w'.heap r.b (0 + k * κ.sz + j) = some (cs.getD (k * κ.sz + j) undef) := fun k j hk hj => by
    obtain ⟨c, hcc, _⟩ := h6 k j hk hj
    simp [hcell, h4, hcc, Array.getD_eq_getD_getElem?]
   have hlen : l.length ≤ r.cap := by omega
   rw [h1]
   refine .seq κ l r.b 0 r.cap (fun k j => cs.getD (k * κ.sz + j) undef) hlen h3 (fun k j hk hj => .inr ⟨i, r, hi, hr, .inl rfl⟩) hcell' (fun k j hk hj => ?_)
   obtain ⟨c, hcc, hcr⟩ := h6 k j hk hj
   simp only [Array.getD_eq_getD_getElem?, hcc, Option.getD_some]
   exact hcr
  rcases hb with ⟨T, sh, hb⟩ | ⟨T, hb⟩
  · have hB := henv.bl i _ hb
    cases hu with
    | rowN i hi => simp only [BlkR, hi] at hB; exact .empty κ l hB _ _
    | row i r hi =>
     simp only [BlkR, hi] at hB
     obtain ⟨h1, h2, h3, cs, T0, h4, h5, h6⟩ := hB
     refine fin r cs T0 (by simp [hb]) hi h4 h1 h2 h3 fun k j hk hj => ?_
     obtain ⟨c, hcc, hcr⟩ := h6 k j hk hj
     exact ⟨c, hcc, hcr.mono (fun _ _ _ => rfl) (fun _ _ => .inl)⟩
  · have hB := henv.bl i _ hb
    cases hu with
    | rowN i hi => simp only [BlkR, hi] at hB; exact .empty κ l hB _ _
    | row i r hi =>
     simp only [BlkR, hi] at hB
     obtain ⟨h1, h2, h3, cs, Fk, T0, h4, h5, hFF, _, h6⟩ := hB
     refine fin r cs T0 (by simp [hb]) hi h4 h1 h2 h3 fun k j hk hj => ?_
     obtain ⟨c, hcc, hcr⟩ := h6 k j hk hj
     exact ⟨c, hcc, hcr.melt fun x o hx => .inr ⟨i, r, by simp [hb], hi, .inr (hFF k j x hk hj hx).1⟩⟩
 have hX := frz_R (ρ' := fun _ => none) hF hav hrow (fun _ _ => .inl)
 have hnew : ∀ {b}, Pin b → w.heap.size ≤ b := fun {b} ⟨i, r, hb, hi, hx⟩ => (hext.own i r b hb hi hx).elim (fun h => h.elim) id
 have hlt : ∀ {b}, Pin b → b < w'.heap.size := fun {b} ⟨i, r, hb, hi, hx⟩ => henv.lt hb hi hx
 refine ⟨v, X, [], fun _ => none, Im2, he, ⟨hQ, rfl⟩, hX, ⟨fun i b hi => (by simp at hi), fun i j r s x hi => absurd rfl hi, fun i r hi => absurd rfl hi, fun i r x hi => absurd rfl hi, fun i r x o hi => absurd rfl hi, fun b o h => h.elim (henv.imlt b o) hlt, fun i b r o hi => (by simp at hi)⟩,
  ⟨fun i r x hi => absurd rfl hi, fun b o h => .inl (hext.im0 b o h), fun b o h => h.elim (hext.imNew b o) fun h => .inr (.inr (hnew h)), hext.keep, hext.frame, hext.grow, hext.os, hext.tape, hext.output, fun _ _ h => by cases h⟩⟩
theorem AVR.noid1 {h : Array Obj} {Im : Nat → Nat → Prop} {ρ ρ' : Rho} {i : Nat} {a : AV} {v : Value} (hρ : ∀ j, j ≠ i → ρ' j = ρ j) (ha : a.kill i = a) (hr : AVR ρ h Im a v) : AVR ρ' h Im a v := by
 have := hr.kill hρ
 rwa [ha] at this
theorem CallsG.nilm {P : Program} {f : FuncId} {args : List AV} {d : Dat} {R : AV → List Blk → Prop} (h : CallsG P f args [.box [.dat d, .mp 1], .mp [] true] 1 R) (ha : args.map (AV.kill 1) = args) :
 CallsG P f args [.box [.dat d, .nilm]] 1 R := by
 refine ⟨h.1, fun w Im ρ vs h1 h2 hE h4 => ?_⟩
 have hρ : ∀ j, j ≠ 1 → x7 ρ 1 none j = ρ j := fun j hj => yC _ hj
 have h1n : x7 ρ 1 none 1 = none := updR_same _ _ _
 have hargs : ∀ j a, args[j]? = some a → AVR (x7 ρ 1 none) w.heap Im a (vs.getD j undef) := fun j a hj => by
  refine AVR.noid1 hρ ?_ (h2 j a hj)
  have := congrArg (fun l => l[j]?) ha
  simp only [List.getElem?_map, hj, Option.map_some] at this
  exact Option.some.inj this
 have hb0 := hE.bl 0 _ rfl
 obtain ⟨r, cs, T, hr, hh, hsz, hcs⟩ := hb0
 have hr' : x7 ρ 1 none 0 = some r := by rw [hρ 0 (by decide)]; exact hr
 have i0 : ∀ {i : Nat} {s : RI}, x7 ρ 1 none i = some s → (fun j => ([.box [.dat d, .mp 1], .mp [] true] : List Blk)[j]?) i ≠ none → i = 0 ∧ s = r := fun {i s} hs hi => by
  match i, hs, hi with
  | 0, hs, _ => rw [hr'] at hs; exact ⟨rfl, (Option.some.inj hs).symm⟩
  | 1, hs, _ => rw [h1n] at hs; cases hs
  | i + 2, _, hi => exact absurd rfl hi
 have nz : (fun j => ([.box [.dat d, .nilm]] : List Blk)[j]?) 0 ≠ none := by simp
 have hE' : Env (fun j => ([.box [.dat d, .mp 1], .mp [] true] : List Blk)[j]?) (x7 ρ 1 none) Im w.heap := by
  refine ⟨fun i b hi => ?_, fun i j s t x hi hj hs ht hx hy => (i0 hs hi).1.trans (i0 ht hj).1.symm, fun i s hi hs => ?_, fun i s x hi hs hx => ?_, fun i s x o hi hs hx => ?_, hE.imlt, fun i b s o hi hs => ?_⟩
  · match i, hi with
    | 0, hi =>
     cases hi
     refine ⟨r, cs, T, hr', hh, hsz, fun j a hj => ?_⟩
     match j, hj with
     | 0, hj =>
      cases hj
      obtain ⟨c, hc1, hc2⟩ := hcs 0 _ rfl
      exact ⟨c, hc1, AVR.noid1 hρ rfl hc2⟩
     | 1, hj =>
      cases hj
      obtain ⟨c, hc1, hc2⟩ := hcs 1 _ rfl
      cases hc2
      exact ⟨_, hc1, .mpN 1 h1n⟩
    | 1, hi =>
     cases hi
     simp only [BlkR, h1n]
     exact ⟨trivial, trivial⟩
    | i + 2, hi => simp at hi
  · obtain ⟨rfl, rfl⟩ := i0 hs hi
    exact hE.fpNe 0 _ nz hr
  · obtain ⟨rfl, rfl⟩ := i0 hs hi
    exact hE.fpLt 0 _ x nz hr hx
  · obtain ⟨rfl, rfl⟩ := i0 hs hi
    exact hE.fpIm 0 _ x o nz hr hx
  · obtain ⟨rfl, rfl⟩ := i0 hs (fun e => by have e2 := hi.symm.trans e; cases e2)
    cases hi
    exact hE.imOwn 0 (.box [.dat d, .nilm]) _ o rfl hr
 have hG : ∀ x, (GP.of 2 (x7 ρ 1 none)).g x → (GP.of 1 ρ).g x := fun x ⟨j, s, hj, hs, hx⟩ => by
  match j, hs with
  | 0, hs => rw [hr'] at hs; cases hs; exact ⟨0, r, by decide, hr, hx⟩
  | 1, hs => rw [h1n] at hs; cases hs
  | j + 2, _ => omega
 refine (h.2 w Im (x7 ρ 1 none) vs h1 hargs hE' h4).mono fun e w' he => ?_
 obtain ⟨v, res, B', ρ', Im', he, hRR, hv, hEnv, hpin, hX⟩ := he
 refine ⟨v, res, B', ρ', Im', he, hRR, hv, hEnv, fun j hj => ⟨(hpin j hj).1, ?_⟩, ?_⟩
 · obtain rfl : j = 0 := by omega
   exact ((hpin 0 hj).2).trans (hρ 0 (by decide))
 · exact ⟨fun i s x hi hs hx => (hX.own i s x hi hs hx).imp (hG x) id, hX.im0, fun b o hI => (hX.imNew b o hI).imp id (fun q => q.imp (hG b) id), hX.keep, fun b hb hn => hX.frame b hb (fun q => hn (hG b q)), hX.grow, hX.os, hX.tape, hX.output, fun i p hp => by cases hp⟩
end Vg
namespace Vg
open Go Go.Proofs Go.Shelf Go.RowKit
theorem compV {P : Program} {q : Ren} {f : FuncId} (L : Lays.n106 P q) (hq : q.f 106 = f) (hf : ∃ fn, P.funcs[f]? = some fn ∧ (fn.name == "runtime.NumGoroutine") = false ∧ fn.body.isNone = false) (a b : ByteArray) :
 CallsV P f [.dat (.str a), .dat (.str b)] (.dat (.i (Lib.compareBytes a.data.toList b.data.toList))) := by
 subst hq
 refine ⟨hf, fun w Im vs hs ha him => ?_⟩
 have h1 := ha 0 (.dat (.str a)) rfl
 have h2 := ha 1 (.dat (.str b)) rfl
 have hv : vs = #[.string a, .string b] := by
  have hs' : vs.size = 2 := hs
  apply Array.ext
  · simpa using hs'
  · intro i hi hi'
    have : i = 0 ∨ i = 1 := by simp at hi'; omega
    rcases this with rfl | rfl
    · cases h1 with
      | dat _ _ hd =>
       generalize hx : vs.getD 0 undef = x at hd
       cases hd
       simpa [Array.getD, hs'] using hx
    · cases h2 with
      | dat _ _ hd =>
       generalize hx : vs.getD 1 undef = x at hd
       cases hd
       simpa [Array.getD, hs'] using hx
 subst hv
 refine (Any.strings_Compare L a b w).mono ?_
 rintro e w' ⟨rfl, rfl⟩
 refine ⟨_, _, [], fun _ => none, fun _ _ => False, rfl, ⟨rfl, rfl⟩, .dat _ _ (.int _ _), ⟨fun i b hi => (by simp at hi), fun i j r s x hi => absurd rfl hi, fun i r hi => absurd rfl hi, fun i r x hi => absurd rfl hi, fun i r x o hi => absurd rfl hi, fun b o h => h.elim, fun i b r o hi => (by simp at hi)⟩, ?_⟩
 exact ⟨fun i r x hi => absurd rfl hi, fun b o h => h.elim, fun b o h => h.elim, fun b o h => h.elim, fun b hb _ => rfl, Nat.le_refl _, rfl, rfl, rfl, fun i p hp => (by cases hp)⟩
end Vg
