/- Results of contracts in other shapes: a nil slice as a row, a tree given up. No condition. -/
import Derived.Test.YtgbjdifegilniaaGreatDoorTy
import Derived.Laws.StructEq
import Derived.Shelf.Strconv.Itoa3
import Derived.Shelf.Strings.Split
import Derived.Shelf.Strconv.AtoiAll
import Derived.Shelf.Strings.Cut
import Derived.WalkSmall
import Derived.Shelf.Strings.OnBuilder
namespace Vg
open Go
theorem CallsF.nilRow {P : Program} {f : FuncId} {args : List AV} {fr : Bool} {T : Nat} {κ : K} {l : List κ.T} (h : CallsF P f args fr fun res B => (res = .nils ∧ B = [] ∧ l.length = 0) ∨ (res = .row 0 ∧ B = [.row T κ l false])) :
 CallsF P f args fr fun res B => res = .row 0 ∧ B = [.row T κ l false] := by
 refine ⟨h.1, fun w Im vs h1 h2 h3 => ?_⟩
 refine (h.2 w Im vs h1 h2 h3).mono fun e w' he => ?_
 obtain ⟨v, res, B', ρ', Im', rfl, hR, hv, hE, hX⟩ := he
 rcases hR with ⟨rfl, rfl, hl⟩ | ⟨rfl, rfl⟩
 · obtain rfl := yC hv
   refine ⟨_, .row 0, [.row T κ l false], fun _ => none, Im', rfl, ⟨rfl, rfl⟩, .rowN 0 rfl, ⟨fun i b hi => ?_, fun i j r s x _ _ hr => (by cases hr), fun i r _ hr => (by cases hr), fun i r x _ hr => (by cases hr), fun i r x o _ hr => (by cases hr), hE.imlt, fun i b r o _ hr => (by cases hr)⟩,
    ⟨fun i r x _ hr => (by cases hr), hX.im0, hX.imNew, hX.keep, hX.frame, hX.grow, hX.os, hX.tape, hX.output, fun i p hp => (by cases hp)⟩⟩
   cases i with
   | zero => cases hi; exact hl
   | succ i => cases hi
 · exact ⟨_, _, _, ρ', Im', rfl, ⟨rfl, rfl⟩, hv, hE, hX⟩
theorem CallsF.melt {P : Program} {f : FuncId} {args : List AV} {fr : Bool} {T : Nat} {κ : K} {l : List κ.T} (h : CallsF P f args fr fun res B => res = .row 0 ∧ B = [.tree T κ l]) :
 CallsF P f args fr fun res B => res = .dat (.seq κ l) ∧ B = [] := by
 refine ⟨h.1, fun w Im vs h1 h2 h3 => ?_⟩
 refine (h.2 w Im vs h1 h2 h3).mono fun e w' he => ?_
 obtain ⟨v, res, B', ρ', Im', rfl, ⟨rfl, rfl⟩, hv, hE, hX⟩ := he
 have hi : (fun j => [Blk.tree T κ l][j]?) 0 = some (.tree T κ l) := rfl
 have hiN : (fun j => [Blk.tree T κ l][j]?) 0 ≠ none := by simp
 refine ⟨v, .dat (.seq κ l), [], ρ', fun b o => Im' b o ∨ ∃ r, ρ' 0 = some r ∧ r.has b, rfl, ⟨rfl, rfl⟩, .dat _ _ (gN hE hi hv fun r x o hr hx => .inr ⟨r, hr, hx⟩),
  ⟨fun i b hb => (by simp at hb), fun i j r s x hb => (by simp at hb), fun i r hb => (by simp at hb), fun i r x hb => (by simp at hb), fun i r x o hb => (by simp at hb), fun b o hb => ?_, fun i b r o hb => (by simp at hb)⟩,
  ⟨fun i r x hb => (by simp at hb), fun b o hb => .inl (hX.im0 b o hb), fun b o hb => ?_, hX.keep, hX.frame, hX.grow, hX.os, hX.tape, hX.output, fun i p hp => (by cases hp)⟩⟩
 · rcases hb with hb | ⟨r, hr, hx⟩
   · exact hE.imlt b o hb
   · exact hE.lt hiN hr hx
 · rcases hb with hb | ⟨r, hr, hx⟩
   · exact hX.imNew b o hb
   · exact .inr (hX.own 0 r b hiN hr hx)
theorem CallsG.mono {P : Program} {f : FuncId} {args : List AV} {Bg : List Blk} {k : Nat} {R R' : AV → List Blk → Prop} (h : CallsG P f args Bg k R) (hR : ∀ res B, R res B → R' res B) : CallsG P f args Bg k R' := by
 refine ⟨h.1, fun w Im ρ vs h1 h2 h3 h4 => ?_⟩
 refine (h.2 w Im ρ vs h1 h2 h3 h4).mono fun e w' he => ?_
 obtain ⟨v, res, B', ρ', Im', he, hRR, hX⟩ := he
 exact ⟨v, res, B', ρ', Im', he, hR _ _ hRR, hX⟩
theorem CallsF.mono {P : Program} {f : FuncId} {args : List AV} {fr : Bool} {R R' : AV → List Blk → Prop} (h : CallsF P f args fr R) (hR : ∀ res B, R res B → R' res B) : CallsF P f args fr R' := by
 refine ⟨h.1, fun w Im vs h1 h2 h3 => ?_⟩
 refine (h.2 w Im vs h1 h2 h3).mono fun e w' he => ?_
 obtain ⟨v, res, B', ρ', Im', he, hRR, hX⟩ := he
 exact ⟨v, res, B', ρ', Im', he, hR _ _ hRR, hX⟩
theorem CallsF.toE {P : Program} {f : FuncId} {args : List AV} {fr : Bool} {R : AV → List Blk → Prop} {Q : AV → Prop} (hc : CallsF P f args fr R) (hR : ∀ res B', R res B' → ∃ X, Q X ∧ frz B' X res) :
 CallsF P f args fr fun res B => Q res ∧ B = [] := by
 obtain ⟨hfn, hc⟩ := hc
 refine ⟨hfn, fun w Im vs hsz hargs him => ?_⟩
 refine (hc w Im vs hsz hargs him).mono fun e w' ⟨v, res, B', ρ', Im', he, hRR, hav, henv, hext⟩ => ?_
 obtain ⟨X, hQ, hF⟩ := hR _ _ hRR
 let Pin : Nat → Prop := fun b => ∃ i r, B'[i]? ≠ none ∧ ρ' i = some r ∧ r.has b
 let Im2 : Nat → Nat → Prop := fun b o => Im' b o ∨ Pin b
 have hrow : ∀ i κ l, (∃ T sh, B'[i]? = some (.row T κ l sh)) ∨ (∃ T, B'[i]? = some (.tree T κ l)) → ∀ u, AVR ρ' w'.heap Im' (.row i) u → RepD w'.heap Im2 (.seq κ l) u := by
  intro i κ l hb u hu
  have fin : ∀ (r : RI) (cs : Array Value) (T : Nat), B'[i]? ≠ none → ρ' i = some r → w'.heap[r.b]? = some (.cells cs T (0, 0)) → r.len = l.length → r.len ≤ r.cap → r.cap ≤ maxLen →
   (∀ k j, k < l.length → j < κ.sz → ∃ c : Value, cs[k * κ.sz + j]? = some c ∧ RepD w'.heap Im2 (y4 κ l k j) c) → RepD w'.heap Im2 (.seq κ l) (.slice (some ⟨r.b, 0, none⟩) r.len r.cap) := by
   intro r cs T hi hr h4 h1 h2 h3 h6
   have hcell' : ∀ k j, k < l.length → j < κ.sz → hcell w'.heap r.b (0 + k * κ.sz + j) = some (cs.getD (k * κ.sz + j) undef) := fun k j hk hj => by
    obtain ⟨c, hcc, _⟩ := h6 k j hk hj
    simp [hcell, h4, hcc, Array.getD_eq_getD_getElem?]
   have hlen : l.length ≤ r.cap := by omega
   rw [h1]
   refine .seq κ l r.b 0 r.cap (fun k j => cs.getD (k * κ.sz + j) undef) hlen h3 (fun k j hk hj => .inr ⟨i, r, hi, hr, .inl rfl⟩) hcell' (fun k j hk hj => ?_)
   obtain ⟨c, hcc, hcr⟩ := h6 k j hk hj
   simp only [Array.getD_eq_getD_getElem?, hcc, Option.getD_some]
   exact hcr
  rcases hb with ⟨T, sh, hb⟩ | ⟨T, hb⟩
  · have hB := henv.bl i _ hb
    cases hu with
    | rowN i hi => simp only [BlkR, hi] at hB; exact .empty κ l hB _ _
    | row i r hi =>
     simp only [BlkR, hi] at hB
     obtain ⟨h1, h2, h3, cs, T0, h4, h5, h6⟩ := hB
     refine fin r cs _ (by simp [hb]) hi h4 h1 h2 h3 fun k j hk hj => ?_
     obtain ⟨c, hcc, hcr⟩ := h6 k j hk hj
     exact ⟨c, hcc, hcr.mono (fun _ _ _ => rfl) (fun _ _ => .inl)⟩
  · have hB := henv.bl i _ hb
    cases hu with
    | rowN i hi => simp only [BlkR, hi] at hB; exact .empty κ l hB _ _
    | row i r hi =>
     simp only [BlkR, hi] at hB
     obtain ⟨h1, h2, h3, cs, Fk, T0, h4, h5, hFF, _, h6⟩ := hB
     refine fin r cs _ (by simp [hb]) hi h4 h1 h2 h3 fun k j hk hj => ?_
     obtain ⟨c, hcc, hcr⟩ := h6 k j hk hj
     exact ⟨c, hcc, hcr.melt fun x o hx => .inr ⟨i, r, by simp [hb], hi, .inr (hFF k j x hk hj hx).1⟩⟩
 have hX := uP (ρ' := fun _ => none) hF hav hrow (fun _ _ => .inl)
 have hnew : ∀ {b}, Pin b → w.heap.size ≤ b := fun {b} ⟨i, r, hb, hi, hx⟩ => (hext.own i r b hb hi hx).elim (fun h => h.elim) id
 have hlt : ∀ {b}, Pin b → b < w'.heap.size := fun {b} ⟨i, r, hb, hi, hx⟩ => henv.lt hb hi hx
 refine ⟨v, X, [], fun _ => none, Im2, he, ⟨hQ, rfl⟩, hX, ⟨fun i b hi => (by simp at hi), fun i j r s x hi => absurd rfl hi, fun i r hi => absurd rfl hi, fun i r x hi => absurd rfl hi, fun i r x o hi => absurd rfl hi, fun b o h => h.elim (henv.imlt b o) hlt, fun i b r o hi => (by simp at hi)⟩,
  ⟨fun i r x hi => absurd rfl hi, fun b o h => .inl (hext.im0 b o h), fun b o h => h.elim (hext.imNew b o) fun h => .inr (.inr (hnew h)), hext.keep, hext.frame, hext.grow, hext.os, hext.tape, hext.output, fun _ _ h => by cases h⟩⟩
theorem CallsG.toDE {P : Program} {f : FuncId} {args : List AV} {Bg : List Blk} {R : AV → List Blk → Prop} {Q : AV → List AV → Prop} (hc : CallsG P f args Bg 1 R)
 (hR : ∀ res B, R res B → ∃ X cells, Q X cells ∧ frz B X res ∧ ∃ bs, B = .box cells :: bs) : CallsG P f args Bg 1 fun res B => ∃ cells, Q res cells ∧ B = [.box cells] := by
 refine ⟨hc.1, fun w Im ρ vs hsz hargs hE hT => ?_⟩
 refine (hc.2 w Im ρ vs hsz hargs hE hT).mono fun e w' ⟨v, res, B', ρ', Im', he, hRR, hav, henv, hpin, hext⟩ => ?_
 obtain ⟨X, cells, hQ, hF, bs, hB⟩ := hR _ _ hRR
 let Pin : Nat → Prop := fun b => ∃ i r, i ≠ 0 ∧ B'[i]? ≠ none ∧ ρ' i = some r ∧ r.has b
 let Im2 : Nat → Nat → Prop := fun b o => Im' b o ∨ Pin b
 have h00 : B'[0]? = some (.box cells) := by rw [hB]; rfl
 have hrow : ∀ i κ l, (∃ T sh, B'[i]? = some (.row T κ l sh)) ∨ (∃ T, B'[i]? = some (.tree T κ l)) → ∀ u, AVR ρ' w'.heap Im' (.row i) u → RepD w'.heap Im2 (.seq κ l) u := by
  intro i κ l hb u hu
  have hi0 : i ≠ 0 := fun e => by
   subst e
   rcases hb with ⟨T, sh, hb⟩ | ⟨T, hb⟩ <;> (rw [h00] at hb; cases hb)
  have fin : ∀ (r : RI) (cs : Array Value) (T : Nat), B'[i]? ≠ none → ρ' i = some r → w'.heap[r.b]? = some (.cells cs T (0, 0)) → r.len = l.length → r.len ≤ r.cap → r.cap ≤ maxLen →
   (∀ k j, k < l.length → j < κ.sz → ∃ c : Value, cs[k * κ.sz + j]? = some c ∧ RepD w'.heap Im2 (y4 κ l k j) c) → RepD w'.heap Im2 (.seq κ l) (.slice (some ⟨r.b, 0, none⟩) r.len r.cap) := by
   intro r cs T hi hr h4 h1 h2 h3 h6
   have hcell' : ∀ k j, k < l.length → j < κ.sz → hcell w'.heap r.b (0 + k * κ.sz + j) = some (cs.getD (k * κ.sz + j) undef) := fun k j hk hj => by
    obtain ⟨c, hcc, _⟩ := h6 k j hk hj
    simp [hcell, h4, hcc, Array.getD_eq_getD_getElem?]
   have hlen : l.length ≤ r.cap := by omega
   rw [h1]
   refine .seq κ l r.b 0 r.cap (fun k j => cs.getD (k * κ.sz + j) undef) hlen h3 (fun k j hk hj => .inr ⟨i, r, hi0, hi, hr, .inl rfl⟩) hcell' (fun k j hk hj => ?_)
   obtain ⟨c, hcc, hcr⟩ := h6 k j hk hj
   simp only [Array.getD_eq_getD_getElem?, hcc, Option.getD_some]
   exact hcr
  rcases hb with ⟨T, sh, hb⟩ | ⟨T, hb⟩
  · have hB := henv.bl i _ hb
    cases hu with
    | rowN i hi => simp only [BlkR, hi] at hB; exact .empty κ l hB _ _
    | row i r hi =>
     simp only [BlkR, hi] at hB
     obtain ⟨h1, h2, h3, cs, T0, h4, h5, h6⟩ := hB
     refine fin r cs _ (by simp [hb]) hi h4 h1 h2 h3 fun k j hk hj => ?_
     obtain ⟨c, hcc, hcr⟩ := h6 k j hk hj
     exact ⟨c, hcc, hcr.mono (fun _ _ _ => rfl) (fun _ _ => .inl)⟩
  · have hB := henv.bl i _ hb
    cases hu with
    | rowN i hi => simp only [BlkR, hi] at hB; exact .empty κ l hB _ _
    | row i r hi =>
     simp only [BlkR, hi] at hB
     obtain ⟨h1, h2, h3, cs, Fk, T0, h4, h5, hFF, _, h6⟩ := hB
     refine fin r cs _ (by simp [hb]) hi h4 h1 h2 h3 fun k j hk hj => ?_
     obtain ⟨c, hcc, hcr⟩ := h6 k j hk hj
     exact ⟨c, hcc, hcr.melt fun x o hx => .inr ⟨i, r, hi0, by simp [hb], hi, .inr (hFF k j x hk hj hx).1⟩⟩
 have hX := uP (ρ' := ρ') hF hav hrow (fun _ _ => .inl)
 have n0 : B'[0]? ≠ none := by rw [h00]; simp
 have far : ∀ {r : RI} {x : Nat}, ρ' 0 = some r → r.has x → ¬ Pin x := fun {r x} hr hx ⟨i, s, hi0, hi, hs, hsx⟩ => hi0 (henv.inj i 0 s r x hi n0 hs hr hsx hx)
 have z : ∀ {i : Nat} {b : Blk}, (fun j => [Blk.box cells][j]?) i = some b → i = 0 ∧ b = .box cells := fun {i b} hi => by
  cases i with
  | zero => cases hi; exact ⟨rfl, rfl⟩
  | succ i => cases hi
 have z' : ∀ {i : Nat}, (fun j => [Blk.box cells][j]?) i ≠ none → i = 0 := fun {i} hi => by
  cases i with
  | zero => rfl
  | succ i => exact absurd rfl hi
 refine ⟨v, X, [.box cells], ρ', Im2, he, ⟨cells, hQ, rfl⟩, hX, ⟨fun i b hi => ?_, fun i j r s x hi hj _ _ _ _ => (z' hi).trans (z' hj).symm, fun i r hi hr => ?_, fun i r x hi hr hx => ?_, fun i r x o hi hr hx => ?_, fun b o h => ?_, fun i b r o hi hr => ?_⟩,
  fun j hj => ⟨by simpa using hj, (hpin j hj).2⟩,
  ⟨fun i r x hi hr hx => ?_, fun b o h => .inl (hext.im0 b o h), fun b o h => ?_, hext.keep, hext.frame, hext.grow, hext.os, hext.tape, hext.output, fun _ _ h => by cases h⟩⟩
 · obtain ⟨rfl, rfl⟩ := z hi
   obtain ⟨r, cs, T, hr, hh, hsz, hcs⟩ := henv.bl 0 _ h00
   exact ⟨r, cs, T, hr, hh, hsz, fun j a ha => let ⟨c, h1, h2⟩ := hcs j a ha; ⟨c, h1, h2.mono (fun _ _ _ => rfl) (fun _ _ => .inl)⟩⟩
 · obtain rfl := z' hi
   exact henv.fpNe 0 r n0 hr
 · obtain rfl := z' hi
   exact henv.fpLt 0 r x n0 hr hx
 · obtain rfl := z' hi
   exact fun h => h.elim (henv.fpIm 0 r x o n0 hr hx) (far hr (.inr hx))
 · exact h.elim (henv.imlt b o) fun ⟨i, r, _, hi, hr, hx⟩ => henv.lt hi hr hx
 · obtain ⟨rfl, rfl⟩ := z hi
   rw [← henv.imOwn 0 _ r o h00 hr]
   exact ⟨fun h => h.elim id fun h => absurd h (far hr (.inl rfl)), .inl⟩
 · obtain rfl := z' hi
   exact hext.own 0 r x n0 hr hx
 · exact h.elim (hext.imNew b o) fun ⟨i, r, _, hi, hr, hx⟩ => .inr (hext.own i r b hi hr hx)
theorem AVR.noid1 {h : Array Obj} {Im : Nat → Nat → Prop} {ρ ρ' : Rho} {i : Nat} {a : AV} {v : Value} (hρ : ∀ j, j ≠ i → ρ' j = ρ j) (ha : a.kill i = a) (hr : AVR ρ h Im a v) : AVR ρ' h Im a v := by
 have := hr.kill hρ
 rwa [ha] at this
theorem CallsG.nilm {P : Program} {f : FuncId} {args : List AV} {d : Dat} {R : AV → List Blk → Prop} (h : CallsG P f args [.box [.dat d, .mp 1], .mp [] true] 1 R) (ha : args.map (AV.kill 1) = args) :
 CallsG P f args [.box [.dat d, .nilm]] 1 R := by
 refine ⟨h.1, fun w Im ρ vs h1 h2 hE h4 => ?_⟩
 have hρ : ∀ j, j ≠ 1 → v6 ρ 1 none j = ρ j := fun j hj => n8 _ hj
 have h1n : v6 ρ 1 none 1 = none := updR_same _ _ _
 have hargs : ∀ j a, args[j]? = some a → AVR (v6 ρ 1 none) w.heap Im a (vs.getD j undef) := fun j a hj => by
  refine AVR.noid1 hρ ?_ (h2 j a hj)
  have := congrArg (fun l => l[j]?) ha
  simp only [List.getElem?_map, hj, Option.map_some] at this
  exact Option.some.inj this
 have hb0 := hE.bl 0 _ rfl
 obtain ⟨r, cs, T, hr, hh, hsz, hcs⟩ := hb0
 have hr' : v6 ρ 1 none 0 = some r := by rw [hρ 0 (by decide)]; exact hr
 have i0 : ∀ {i : Nat} {s : RI}, v6 ρ 1 none i = some s → (fun j => ([.box [.dat d, .mp 1], .mp [] true] : List Blk)[j]?) i ≠ none → i = 0 ∧ s = r := fun {i s} hs hi => by
  match i, hs, hi with
  | 0, hs, _ => rw [hr'] at hs; exact ⟨rfl, (Option.some.inj hs).symm⟩
  | 1, hs, _ => rw [h1n] at hs; cases hs
  | i + 2, _, hi => exact absurd rfl hi
 have nz : (fun j => ([.box [.dat d, .nilm]] : List Blk)[j]?) 0 ≠ none := by simp
 have hE' : Env (fun j => ([.box [.dat d, .mp 1], .mp [] true] : List Blk)[j]?) (v6 ρ 1 none) Im w.heap := by
  refine ⟨fun i b hi => ?_, fun i j s t x hi hj hs ht hx hy => (i0 hs hi).1.trans (i0 ht hj).1.symm, fun i s hi hs => ?_, fun i s x hi hs hx => ?_, fun i s x o hi hs hx => ?_, hE.imlt, fun i b s o hi hs => ?_⟩
  · match i, hi with
    | 0, hi =>
     cases hi
     refine ⟨r, cs, T, hr', hh, ⟨hsz.len, fun h => by simp [x9] at h⟩, fun j a hj => ?_⟩
     match j, hj with
     | 0, hj =>
      cases hj
      obtain ⟨c, hc1, hc2⟩ := hcs 0 _ rfl
      exact ⟨c, hc1, AVR.noid1 hρ rfl hc2⟩
     | 1, hj =>
      cases hj
      obtain ⟨c, hc1, hc2⟩ := hcs 1 _ rfl
      cases hc2
      exact ⟨_, hc1, .mpN 1 h1n⟩
    | 1, hi =>
     cases hi
     simp only [BlkR, h1n]
     exact ⟨trivial, trivial⟩
    | i + 2, hi => simp at hi
  · obtain ⟨rfl, rfl⟩ := i0 hs hi
    exact hE.fpNe 0 _ nz hr
  · obtain ⟨rfl, rfl⟩ := i0 hs hi
    exact hE.fpLt 0 _ x nz hr hx
  · obtain ⟨rfl, rfl⟩ := i0 hs hi
    exact hE.fpIm 0 _ x o nz hr hx
  · obtain ⟨rfl, rfl⟩ := i0 hs (fun e => by have e2 := hi.symm.trans e; cases e2)
    cases hi
    exact hE.imOwn 0 (.box [.dat d, .nilm]) _ o rfl hr
 have hG : ∀ x, (GP.of 2 (v6 ρ 1 none)).g x → (GP.of 1 ρ).g x := fun x ⟨j, s, hj, hs, hx⟩ => by
  match j, hs with
  | 0, hs => rw [hr'] at hs; cases hs; exact ⟨0, r, by decide, hr, hx⟩
  | 1, hs => rw [h1n] at hs; cases hs
  | j + 2, _ => omega
 refine (h.2 w Im (v6 ρ 1 none) vs h1 hargs hE' h4).mono fun e w' he => ?_
 obtain ⟨v, res, B', ρ', Im', he, hRR, hv, hEnv, hpin, hX⟩ := he
 refine ⟨v, res, B', ρ', Im', he, hRR, hv, hEnv, fun j hj => ⟨(hpin j hj).1, ?_⟩, ?_⟩
 · obtain rfl : j = 0 := by omega
   exact ((hpin 0 hj).2).trans (hρ 0 (by decide))
 · exact ⟨fun i s x hi hs hx => (hX.own i s x hi hs hx).imp (hG x) id, hX.im0, fun b o hI => (hX.imNew b o hI).imp id (fun q => q.imp (hG b) id), hX.keep, fun b hb hn => hX.frame b hb (fun q => hn (hG b q)), hX.grow, hX.os, hX.tape, hX.output, fun i p hp => by cases hp⟩
theorem aggEq4 {P : Program} {T t : Nat} {fs : Array Field} {f0 f1 f2 f3 : Field} (hu : P.underlying T = some (.struct fs)) (hfs : fs = #[f0, f1, f2, f3]) (hg : P.eqGuardType P.depth T = false) (hs : P.stoodInHeld T = false)
 (ht : P.underlying t = some (.int .i64)) (hn : f0.name ≠ "_" ∧ f1.name ≠ "_" ∧ f2.name ≠ "_" ∧ f3.name ≠ "_")
 (h0 : f0.type = t ∧ f1.type = t ∧ f2.type = t ∧ f3.type = t) (ho : f0.offset = 0 ∧ f1.offset = 1 ∧ f2.offset = 2 ∧ f3.offset = 3) : cK P T 4 := by
 intro x y xs ys w hx hy
 obtain ⟨a0, a1, a2, a3, rfl⟩ : ∃ a0 a1 a2 a3, xs = [a0, a1, a2, a3] := by
  match xs, hx with
  | [a0, a1, a2, a3], _ => exact ⟨a0, a1, a2, a3, rfl⟩
 obtain ⟨b0, b1, b2, b3, rfl⟩ : ∃ b0 b1 b2 b3, ys = [b0, b1, b2, b3] := by
  match ys, hy with
  | [b0, b1, b2, b3], _ => exact ⟨b0, b1, b2, b3, rfl⟩
 have hf : P.fieldsOf T = #[f0, f1, f2, f3] := by simp only [Program.fieldsOf, hu, hfs]
 have hS : P.underlying T = some (.struct (P.fieldsOf T)) := by rw [hf, hu, hfs]
 have hp : ∀ (w : World) (cs : Array Value) (f : Field) (v : Value), f.type = t → cs[f.offset]? = some v → (part f.type cs f.offset).run P w = .ok v w := by
  intro w cs f v h1 h2
  have hi : (isAgg t).run P w = .ok false w := by simp [isAgg, run_underlying ht]
  unfold part
  rw [h1]
  simp [hi, h2]
 obtain ⟨n0, n1, n2, n3⟩ := hn
 obtain ⟨t0, t1, t2, t3⟩ := h0
 obtain ⟨o0, o1, o2, o3⟩ := ho
 have key : (Op.equalIn 10000 T (.agg #[.int .i64 a0, .int .i64 a1, .int .i64 a2, .int .i64 a3]) (.agg #[.int .i64 b0, .int .i64 b1, .int .i64 b2, .int .i64 b3])).run P w = .ok (decide ([a0, a1, a2, a3] = [b0, b1, b2, b3])) w := by
  rw [show (10000 : Nat) = 9999 + 1 from rfl, run_equalIn_agg w 9999 T _ _ hS hs, hf]
  simp only [Op.eqFields, if_pos n0, if_pos n1, if_pos n2, if_pos n3, Sem.run_bind, ne_eq]
  rw [hp w _ f0 (.int .i64 a0) t0 (by rw [o0]; rfl), Result.andThen_ok, hp w _ f0 (.int .i64 b0) t0 (by rw [o0]; rfl), Result.andThen_ok, t0, show (9999 : Nat) = 9998 + 1 from rfl, run_equalIn_int w 9998 t .i64 .i64 a0 b0 ht, Result.andThen_ok]
  by_cases e0 : a0 = b0
  · subst e0
    simp only [beq_self_eq_true, Bool.not_true, Bool.false_eq_true, if_false, Sem.run_bind]
    rw [hp w _ f1 (.int .i64 a1) t1 (by rw [o1]; rfl), Result.andThen_ok, hp w _ f1 (.int .i64 b1) t1 (by rw [o1]; rfl), Result.andThen_ok, t1, run_equalIn_int w 9998 t .i64 .i64 a1 b1 ht, Result.andThen_ok]
    by_cases e1 : a1 = b1
    · subst e1
      simp only [beq_self_eq_true, Bool.not_true, Bool.false_eq_true, if_false, Sem.run_bind]
      rw [hp w _ f2 (.int .i64 a2) t2 (by rw [o2]; rfl), Result.andThen_ok, hp w _ f2 (.int .i64 b2) t2 (by rw [o2]; rfl), Result.andThen_ok, t2, run_equalIn_int w 9998 t .i64 .i64 a2 b2 ht, Result.andThen_ok]
      by_cases e2 : a2 = b2
      · subst e2
        simp only [beq_self_eq_true, Bool.not_true, Bool.false_eq_true, if_false, Sem.run_bind]
        rw [hp w _ f3 (.int .i64 a3) t3 (by rw [o3]; rfl), Result.andThen_ok, hp w _ f3 (.int .i64 b3) t3 (by rw [o3]; rfl), Result.andThen_ok, t3, run_equalIn_int w 9998 t .i64 .i64 a3 b3 ht, Result.andThen_ok]
        by_cases e3 : a3 = b3
        · subst e3; simp
        · simp [e3]
      · simp [e2]
    · simp [e1]
  · simp [e0]
 constructor
 · simp only [vI, List.map_cons, List.map_nil, Sem.run_bind]
   rw [run_eqGuard_agg w .eql T x y _ _ hg, Result.andThen_ok, run_eql_struct, key]; rfl
 · simp only [vI, List.map_cons, List.map_nil, Sem.run_bind]
   rw [run_eqGuard_agg w .neq T x y _ _ hg, Result.andThen_ok, run_neq_struct, key]; rfl
end Vg
namespace Vg
open Go Go.Sort Go.Proofs Go.Shelf
def pow10C : List Value := Lib.pow10Tab.map (Value.int .u64)
theorem tab_is {P : Program} {w : World} {Im : Nat → Nat → Prop} {name : String} {k : IntKind} {zs : List Int} {g : Nat} (hT : TabH w.heap Im) (hg : P.globalNamed name = some g) (hm : (g, zs.map (Value.int k)) ∈ pK) (h0 : 0 < zs.length) : Lib.TabIs P w name k zs := by
 have hc : ∀ i, i ≤ zs.length → hcell w.heap g i = (zs.map (Value.int k))[i]? := fun i hi => (hT.tab _ hm i (by simpa using hi)).2
 unfold Lib.TabIs World.var?
 rw [hg]
 simp only [Option.bind_some]
 have h1 := hc 0 omG
 unfold hcell at hc h1
 split
 · rename_i cs T f e
   rw [e] at hc
   simp only at hc
   congr 1
   apply Array.ext'
   apply List.ext_getElem?
   intro i
   rcases Nat.lt_or_ge i zs.length with hi | hi
   · simpa using hc i omG
   · have hn := hc zs.length (Nat.le_refl _)
     have hs : cs.size ≤ zs.length := by
      rw [List.getElem?_eq_none (by simp)] at hn
      exact Array.getElem?_eq_none_iff.1 hn
     rw [List.getElem?_eq_none (by simpa using Nat.le_trans hs hi), List.getElem?_eq_none (by simpa using hi)]
 · rename_i hno
   exfalso
   split at h1
   · rename_i cs T f e
     exact hno _ _ _ e
   · rw [List.getElem?_map, List.getElem?_eq_getElem h0] at h1
     cases h1
theorem itoaV {P : Program} {q : Ren} {f : FuncId} {g : Nat} (L : LaysM.n171 P q) (hq : q.f 171 = f) (hf : ∃ fn, P.funcs[f]? = some fn ∧ (fn.name == "runtime.NumGoroutine") = false ∧ fn.body.isNone = false)
 (hg : P.globalNamed "internal/strconv.uint64pow10" = some g) (hm : (g, pow10C) ∈ pK) (n : Int) (h0 : -9223372036854775808 ≤ n) (h1 : n ≤ 9223372036854775807) :
 CallsV P f [.dat (.i n)] (.dat (.str ⟨(Lib.itoa n).toArray⟩)) := by
 subst hq
 refine ⟨hf, fun w Im vs hs ha him => ?_⟩
 have h2 := ha 0 (.dat (.i n)) rfl
 have hv : vs = #[.int .i64 n] := by
  have hs' : vs.size = 1 := hs
  apply Array.ext
  · simpa using hs'
  · intro i hi hi'
    have : i = 0 := by simp at hi'; omega
    subst this
    cases h2 with
    | dat _ _ hd =>
     generalize hx : vs.getD 0 undef = x at hd
     cases hd
     simpa [Array.getD, hs'] using hx
 subst hv
 refine (Any.strconv_Itoa L n h0 h1 w (tab_is him.tab hg hm (by simp [Lib.pow10Tab_length]))).mono ?_
 rintro e w' ⟨rfl, k, os, rfl⟩
 refine ⟨_, _, [], fun _ => none, fun _ _ => False, rfl, ⟨rfl, rfl⟩, .dat _ _ (.str _), ⟨fun i b hi => (by simp at hi), fun i j r s x hi => absurd rfl hi, fun i r hi => absurd rfl hi, fun i r x hi => absurd rfl hi, fun i r x o hi => absurd rfl hi, fun b o h => h.elim, fun i b r o hi => (by simp at hi)⟩, ?_⟩
 refine ⟨fun i r x hi => absurd rfl hi, fun b o h => h.elim, fun b o h => h.elim, fun b o h => h.elim, fun b hb _ => ?_, ?_, rfl, rfl, rfl, fun i p hp => (by cases hp)⟩
 · show (w.heap ++ os)[b]? = w.heap[b]?
   exact Array.getElem?_append_left hb
 · show w.heap.size ≤ (w.heap ++ os).size
   simp
theorem qbn {P : Program} {W : World} {name : String} {k : IntKind} {zs : List Int} {g : Nat} (hT : Lib.TabIs P W name k zs) (hg : P.globalNamed name = some g) (ht : pK = [(g, zs.map (Value.int k))])
 (he : ∀ g ∈ pJ, ∃ v, hcell W.heap g 0 = some v ∧ (v = .nilIface ∨ ∃ t x, v = .iface t x)) (hn : ∀ g ∈ uI, ∃ m, hcell W.heap g 0 = some (.int .i64 m)) : TabH W.heap fun b _ => b < W.heap.size := by
 unfold Lib.TabIs World.var? at hT
 rw [hg] at hT
 simp only [Option.bind_some] at hT
 split at hT
 · rename_i cs T f e
   have hlt : g < W.heap.size := (Array.getElem?_eq_some_iff.1 e).1
   refine ⟨fun t hm i hi => ?_, fun g hm => ?_, fun g hm => ?_⟩
   · rw [ht] at hm
     obtain rfl := List.mem_singleton.1 hm
     refine ⟨hlt, ?_⟩
     simp only [hcell, e]
     rw [Option.some.inj hT]
     simp
   · obtain ⟨v, h1, h2⟩ := he g hm
     exact ⟨xL h1, v, h1, h2⟩
   · obtain ⟨m, h1⟩ := hn g hm
     exact ⟨xL h1, m, h1⟩
 · cases hT
end Vg
namespace Vg
open Go Go.Proofs Go.Shelf
theorem gT {P : Program} {q : Ren} {f : FuncId} {T : Nat} (L : Lays.n146 P q) (hq : q.f 146 = f) (hT : q.t 9 = T) (hi9 : (P.info? (q.t 9)).map (fun i => (i.zero, i.size, i.bytes)) = some (some (.string ByteArray.empty), 1, 16))
 (hf : ∃ fn, P.funcs[f]? = some fn ∧ (fn.name == "runtime.NumGoroutine") = false ∧ fn.body.isNone = false) (hg : q.g 1 ∈ uI)
 (s sep : ByteArray) (hs : s.size < 4294967281) (h1 : 1 ≤ sep.size) (hlen : (Lib.splitB sep 0 (Lib.countB s sep) s).length = Lib.countB s sep + 1) (hmax : Lib.countB s sep + 1 ≤ maxLen) :
 CallsF P f [.dat (.str s), .dat (.str sep)] true (fun res B => res = .row 0 ∧ B = [.row T .strs (Lib.splitB sep 0 (Lib.countB s sep) s) false]) := by
 subst hq hT
 refine ⟨hf, fun w Im vs hz ha him => ?_⟩
 have a0 := ha 0 (.dat (.str s)) rfl
 have a1 := ha 1 (.dat (.str sep)) rfl
 have hv : vs = #[.string s, .string sep] := by
  have hz' : vs.size = 2 := hz
  apply Array.ext
  · simpa using hz'
  · intro i hi hi'
    have : i = 0 ∨ i = 1 := by simp at hi'; omega
    rcases this with rfl | rfl
    · cases a0 with
      | dat _ _ hd =>
       generalize hx : vs.getD 0 undef = x at hd
       cases hd
       simpa [Array.getD, hz'] using hx
    · cases a1 with
      | dat _ _ hd =>
       generalize hx : vs.getD 1 undef = x at hd
       cases hd
       simpa [Array.getD, hz'] using hx
 subst hv
 obtain ⟨_, m, hm⟩ := him.tab.num _ hg
 refine (Any.strings_Split L hi9 s sep m w hs (by rw [j9]; exact hm) h1).mono ?_
 rintro e w' ⟨rfl, rfl⟩
 generalize hp : Lib.splitB sep 0 (Lib.countB s sep) s = parts at hlen ⊢
 have hb : (w.alloc (.cells (parts.map Value.string).toArray (q.t 9))).heap[w.heap.size]? = some (.cells (parts.map Value.string).toArray (q.t 9) (0, 0)) := by
  show (w.heap.push _)[w.heap.size]? = _
  rw [Array.getElem?_push_size]
 have hlt : w.heap.size < (w.alloc (.cells (parts.map Value.string).toArray (q.t 9))).heap.size := by
  show w.heap.size < (w.heap.push _).size
  rw [Array.size_push]; omega
 refine ⟨_, .row 0, [.row (q.t 9) .strs parts false], fun i => if i = 0 then some (RI.at w.heap.size parts.length parts.length) else none, fun _ _ => False, rfl, ⟨rfl, rfl⟩, ?_, ?_, ?_⟩
 · rw [← hlen]
   exact .row 0 (RI.at w.heap.size parts.length parts.length) rfl
 · have one : ∀ {i : Nat} {r : RI}, (if i = 0 then some (RI.at w.heap.size parts.length parts.length) else none) = some r → i = 0 ∧ r = RI.at w.heap.size parts.length parts.length := fun {i r} h => by
    split at h
    · exact ⟨by assumption, (Option.some.inj h).symm⟩
    · cases h
   refine ⟨fun i b hi => ?_, fun i j r s x _ _ hr hs _ _ => (one hr).1.trans (one hs).1.symm, fun i r _ hr => ?_, fun i r x _ hr hx => ?_, fun i r x o _ hr hx => ?_, fun b o h => h.elim, fun i b r o hi hr => ?_⟩
   · cases i with
     | succ i => simp at hi
     | zero =>
      simp at hi
      subst hi
      refine ⟨rfl, Nat.le_refl _, by show parts.length ≤ maxLen; omega, _, _, hb, by simp [K.sz], fun k j hk hj => ?_⟩
      obtain rfl : j = 0 := by have : j < 1 := hj; omega
      refine ⟨.string (parts.getD k K.strs.dflt), ?_, .str _⟩
      show (parts.map Value.string).toArray[k * 1 + 0]? = _
      simp [List.getD_eq_getElem?_getD, List.getElem?_eq_getElem hk]
   · rw [(one hr).2]; exact fun h => h
   · rw [(one hr).2] at hx; exact hx.elim
   · rw [(one hr).2] at hx; exact hx.elim
   · cases i with
     | succ i => simp at hi
     | zero =>
      simp at hi
      subst hi
      exact ⟨fun h => h.elim, fun h => absurd h (Nat.not_lt_zero _)⟩
 · refine ⟨fun i r x _ hr hx => ?_, fun b o h => h.elim, fun b o h => h.elim, fun b o h => h.elim, fun b hb' _ => ?_, Nat.le_of_lt hlt, rfl, rfl, rfl, fun i p hp => (by cases hp)⟩
   · have hr' : r = RI.at w.heap.size parts.length parts.length := by
      split at hr
      · exact (Option.some.inj hr).symm
      · cases hr
     subst hr'
     rcases hx with rfl | hx
     · exact .inr (Nat.le_refl _)
     · exact hx.elim
   · show (w.heap.push _)[b]? = _
     exact Array.getElem?_push_lt hb' |>.trans (Array.getElem?_eq_getElem hb').symm
end Vg
namespace Vg
open Go Go.Proofs Go.Shelf Go.RowKit Go.Sort
def sA (s : ByteArray) : Int × Bool := match Lib.atoiAll s.data.toList with
 | .ok v => (v, false)
 | .range => (Lib.atoiSat s.data.toList, true)
 | _ => (0, true)
theorem bR {w w' : World} {Im : Nat → Nat → Prop} {n : Int} {b : Bool} {v : Value} (hb : Below w.heap.size w w') (hlt : ∀ b o, Im b o → b < w.heap.size) (hv : RepD w'.heap Im (.err b) v) :
 ∃ v' res B' ρ' Im', Ending.returned (.tuple #[.int .i64 n, v]) = .returned v' ∧ (res = .tup [.dat (.i n), .dat (.err b)] ∧ B' = []) ∧ AVR ρ' w'.heap Im' res v' ∧ Env (fun j => B'[j]?) ρ' Im' w'.heap ∧
  Ext w .nil (gF Im false) (fun j => B'[j]?) ρ' Im' w' := by
 refine ⟨_, _, [], fun _ => none, Im, rfl, ⟨rfl, rfl⟩, ?_, ⟨fun i b hi => (by simp at hi), fun i j r s x hi => absurd rfl hi, fun i r hi => absurd rfl hi, fun i r x hi => absurd rfl hi, fun i r x o hi => absurd rfl hi, fun b o h => Nat.lt_of_lt_of_le (hlt b o h) hb.size, fun i b r o hi => (by simp at hi)⟩, ?_⟩
 · refine .tup _ _ (fun j => (#[.int .i64 n, v] : Array Value).getD j undef) rfl (fun j hj => ?_) (fun j a ha => ?_)
   · have : j = 0 ∨ j = 1 := by simp at hj; omega
     rcases this with rfl | rfl <;> rfl
   · match j, ha with
     | 0, ha => cases ha; exact .dat _ _ (.int _ _)
     | 1, ha => cases ha; exact .dat _ _ hv
 · exact ⟨fun i r x hi => absurd rfl hi, fun _ _ h => h, fun _ _ h => .inl h, fun b o h => iA (hb.block b (hlt b o h)) o, fun b h _ => hb.block b h, hb.size, hb.os, hb.tape, hb.output, fun i p hp => (by cases hp)⟩
theorem atoiV {P : Program} {q : Ren} {f : FuncId} (L : LaysC.n172 P q) (hq : q.f 172 = f) (hf : ∃ fn, P.funcs[f]? = some fn ∧ (fn.name == "runtime.NumGoroutine") = false ∧ fn.body.isNone = false)
 (h15 : q.g 15 ∈ pJ) (h16 : q.g 16 ∈ pJ) (s : ByteArray) (hs : s.size ≤ 281474976710656) :
 CallsV P f [.dat (.str s)] (.tup [.dat (.i (sA s).1), .dat (.err (sA s).2)]) := by
 subst hq
 refine ⟨hf, fun w Im vs hz ha him => ?_⟩
 have a0 := ha 0 (.dat (.str s)) rfl
 have hv : vs = #[.string s] := by
  have hz' : vs.size = 1 := hz
  apply Array.ext
  · simpa using hz'
  · intro i hi hi'
    have : i = 0 := by simp at hi'; omega
    subst this
    cases a0 with
    | dat _ _ hd =>
     generalize hx : vs.getD 0 undef = x at hd
     cases hd
     simpa [Array.getD, hz'] using hx
 subst hv
 obtain ⟨_, ev, he1, he2⟩ := him.tab.err _ h15
 obtain ⟨_, ev', he1', he2'⟩ := him.tab.err _ h16
 unfold sA
 cases hA : Lib.atoiAll s.data.toList with
 | ok v =>
  refine (Any.strconv_Atoi_ok L s omG v hA w).mono ?_
  rintro e w' ⟨rfl, hw⟩
  refine bR (b := false) ?_ him.lt .errN
  rcases hw with rfl | ⟨t, rfl⟩
  · exact Below.refl _ _
  · exact Lib.bytesWorld_below _ _ _
 | range =>
  refine (Any.strconv_Atoi_range L s hs hA ev' w (by rw [j9]; exact he1') he2').mono ?_
  rintro e w' ⟨N, rfl, _, _, hb⟩
  exact bR (b := true) hb him.lt (.errS _ _)
 | _ =>
  refine (Any.strconv_Atoi_syntax L s hs hA ev w (by rw [j9]; exact he1) he2).mono ?_
  rintro e w' ⟨N, rfl, _, _, hb⟩
  exact bR (b := true) hb him.lt (.errS _ _)
end Vg
namespace Vg
open Go Go.Proofs Go.Shelf Go.RowKit
theorem cutV {P : Program} {q : Ren} {f : FuncId} (L : Lays.n145 P q) (hq : q.f 145 = f)
 (hf : ∃ fn, P.funcs[f]? = some fn ∧ (fn.name == "runtime.NumGoroutine") = false ∧ fn.body.isNone = false) (hg : q.g 1 ∈ uI) (s sep : ByteArray) (hs : s.size < 4294967281) :
 CallsV P f [.dat (.str s), .dat (.str sep)] (.tup [.dat (.str ⟨(Lib.cut s.data.toList sep.data.toList).1.toArray⟩), .dat (.str ⟨(Lib.cut s.data.toList sep.data.toList).2.1.toArray⟩), .dat (.bool (Lib.cut s.data.toList sep.data.toList).2.2)]) := by
 subst hq
 refine ⟨hf, fun w Im vs hz ha him => ?_⟩
 have a0 := ha 0 (.dat (.str s)) rfl
 have a1 := ha 1 (.dat (.str sep)) rfl
 have hv : vs = #[.string s, .string sep] := by
  have hz' : vs.size = 2 := hz
  apply Array.ext
  · simpa using hz'
  · intro i hi hi'
    have : i = 0 ∨ i = 1 := by simp at hi'; omega
    rcases this with rfl | rfl
    · cases a0 with
      | dat _ _ hd =>
       generalize hx : vs.getD 0 undef = x at hd
       cases hd
       simpa [Array.getD, hz'] using hx
    · cases a1 with
      | dat _ _ hd =>
       generalize hx : vs.getD 1 undef = x at hd
       cases hd
       simpa [Array.getD, hz'] using hx
 subst hv
 obtain ⟨_, m, hm⟩ := him.tab.num _ hg
 refine (Any.strings_Cut L s sep m w hs (by rw [j9]; exact hm)).mono ?_
 rintro e w' ⟨rfl, n, rfl⟩
 have hb : Below w.heap.size w (w.drewN n) := below_drewN (Below.refl _ w) n
 generalize (Lib.cut s.data.toList sep.data.toList).1 = x
 generalize (Lib.cut s.data.toList sep.data.toList).2.1 = y
 generalize (Lib.cut s.data.toList sep.data.toList).2.2 = z
 refine ⟨_, _, [], fun _ => none, fun _ _ => False, rfl, ⟨rfl, rfl⟩, ?_, ⟨fun i b hi => (by simp at hi), fun i j r s x hi => absurd rfl hi, fun i r hi => absurd rfl hi, fun i r x hi => absurd rfl hi, fun i r x o hi => absurd rfl hi, fun b o h => h.elim, fun i b r o hi => (by simp at hi)⟩, ?_⟩
 · refine .tup _ _ (fun j => #[Value.string ⟨x.toArray⟩, Value.string ⟨y.toArray⟩, Value.bool z].getD j undef) rfl (fun j hj => ?_) (fun j a hj => ?_)
   · have : j < 3 := hj
     match j, this with
     | 0, _ => rfl
     | 1, _ => rfl
     | 2, _ => rfl
   · match j, hj with
     | 0, hj => cases hj; exact .dat _ _ (.str _)
     | 1, hj => cases hj; exact .dat _ _ (.str _)
     | 2, hj => cases hj; exact .dat _ _ (.bool _)
     | j + 3, hj => cases hj
 · refine ⟨fun i r x hi => absurd rfl hi, fun b o h => h.elim, fun b o h => h.elim, fun b o h => h.elim, fun c hc _ => ?_, ?_, ?_, ?_, ?_, fun i p hp => (by cases hp)⟩
   · exact hb.block c hc
   · exact hb.size
   · exact hb.os
   · exact hb.tape
   · exact hb.output
def sG (l : List ByteArray) (b : ByteArray) : ByteArray := ⟨(Lib.join (l.map (·.data.toList)) b.data.toList).toArray⟩
theorem joinV {P : Program} {q : Ren} {f : FuncId} (L : Lays.n156 P q) (X : Builder.Extra P q) (hq : q.f 156 = f) (hf : ∃ fn, P.funcs[f]? = some fn ∧ (fn.name == "runtime.NumGoroutine") = false ∧ fn.body.isNone = false)
 (l : List ByteArray) (b : ByteArray) (h1 : l.length ≤ 140737488355328) (h2 : (Lib.join (l.map (·.data.toList)) b.data.toList).length ≤ 140737488355328) :
 CallsV P f [.dat (.seq .strs l), .dat (.str b)] (.dat (.str (sG l b))) := by
 subst hq
 refine ⟨hf, fun w Im vs hz ha him => ?_⟩
 have a0 := ha 0 (.dat (.seq .strs l)) rfl
 have a1 := ha 1 (.dat (.str b)) rfl
 have hz' : vs.size = 2 := hz
 have fin : ∀ (e : Ending) (w' : World), e = .returned (.string (sG l b)) → Below w.heap.size w w' → ∃ v res B' ρ' Im', e = .returned v ∧ (res = AV.dat (.str (sG l b)) ∧ B' = []) ∧ AVR ρ' w'.heap Im' res v ∧ Env (fun j => B'[j]?) ρ' Im' w'.heap ∧ Ext w .nil (gF Im (AV.dat (.str (sG l b))).flat) (fun j => B'[j]?) ρ' Im' w' := by
  rintro e w' rfl hb
  refine ⟨_, _, [], fun _ => none, fun _ _ => False, rfl, ⟨rfl, rfl⟩, .dat _ _ (.str _), ⟨fun i b hi => (by simp at hi), fun i j r s x hi => absurd rfl hi, fun i r hi => absurd rfl hi, fun i r x hi => absurd rfl hi, fun i r x o hi => absurd rfl hi, fun b o h => h.elim, fun i b r o hi => (by simp at hi)⟩, ?_⟩
  refine ⟨fun i r x hi => absurd rfl hi, fun b o h => h.elim, fun b o h => h.elim, fun b o h => h.elim, fun c hc _ => ?_, ?_, ?_, ?_, ?_, fun i p hp => (by cases hp)⟩
  · exact hb.block c hc
  · exact hb.size
  · exact hb.os
  · exact hb.tape
  · exact hb.output
 generalize hx : vs.getD 0 undef = x at a0
 generalize hy : vs.getD 1 undef = y at a1
 have hv : vs = #[x, y] := by
  apply Array.ext
  · simpa using hz'
  · intro i hi hi'
    have : i = 0 ∨ i = 1 := by simp at hi'; omega
    rcases this with rfl | rfl
    · simpa [Array.getD, hz'] using hx
    · simpa [Array.getD, hz'] using hy
 subst hv
 cases a1 with
 | dat _ _ hd =>
  cases hd
  cases a0 with
  | dat _ _ hd =>
   cases hd with
   | empty _ _ hl a cap =>
    obtain rfl := List.length_eq_zero_iff.1 hl
    refine (Any.strings_Join_none L X a cap b w).mono fun e w' ⟨he, hw⟩ => fin e w' ?_ (hw ▸ Below.refl _ _)
    rw [he]; rfl
   | seq _ _ bk o cap cf hcap hmax him' hc hr =>
    by_cases h0 : l.length = 0
    · obtain rfl := List.length_eq_zero_iff.1 h0
      refine (Any.strings_Join_none L X _ cap b w).mono fun e w' ⟨he, hw⟩ => fin e w' ?_ (hw ▸ Below.refl _ _)
      rw [he]; rfl
    · refine (Any.strings_Join L X bk o cap l b w (fun j x hj => ?_) ?_ h1 hcap h2).mono fun e w' ⟨he, hw⟩ => fin e w' he hw
      · have hj' : j < l.length := (List.getElem?_eq_some_iff.1 hj).1
        have q := hc j 0 hj' (by decide)
        have r := hr j 0 hj' (by decide)
        have e1 : y4 .strs l j 0 = .str x := by
         unfold y4
         rw [show l.getD j K.strs.dflt = x by rw [List.getD_eq_getElem?_getD, hj]; rfl]; rfl
        rw [e1] at r
        rw [j9]
        have e2 : o + j * K.strs.sz + 0 = o + j := by show o + j * 1 + 0 = o + j; omega
        rw [e2] at q
        rw [q]
        generalize cf j 0 = y at r
        cases r; rfl
      · have q := hc 0 0 omG (by decide)
        exact xL q
end Vg
