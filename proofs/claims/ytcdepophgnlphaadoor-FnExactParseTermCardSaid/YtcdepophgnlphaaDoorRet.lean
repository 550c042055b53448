/- Results of contracts in other shapes: a nil slice as a row, a tree given up. No condition. -/
import Derived.Test.YtcdepophgnlphaaDoorTy
import Derived.Shelf.Strconv.Itoa3
import Derived.Shelf.Strconv.AtoiAll
import Derived.Shelf.Strings.Cut
import Derived.WalkSmall
namespace Vg
open Go
theorem CallsF.nilRow {P : Program} {f : FuncId} {args : List AV} {fr : Bool} {T : Nat} {κ : K} {l : List κ.T} (h : CallsF P f args fr fun res B => (res = .nils ∧ B = [] ∧ l.length = 0) ∨ (res = .row 0 ∧ B = [.row T κ l false])) :
 CallsF P f args fr fun res B => res = .row 0 ∧ B = [.row T κ l false] := by
 refine ⟨h.1, fun w Im vs h1 h2 h3 => ?_⟩
 refine (h.2 w Im vs h1 h2 h3).mono fun e w' he => ?_
 obtain ⟨v, res, B', ρ', Im', rfl, hR, hv, hE, hX⟩ := he
 rcases hR with ⟨rfl, rfl, hl⟩ | ⟨rfl, rfl⟩
 · obtain rfl := oB hv
   refine ⟨_, .row 0, [.row T κ l false], fun _ => none, Im', rfl, ⟨rfl, rfl⟩, .rowN 0 rfl, ⟨fun i b hi => ?_, fun i j r s x _ _ hr => (by cases hr), fun i r _ hr => (by cases hr), fun i r x _ hr => (by cases hr), fun i r x o _ hr => (by cases hr), hE.imlt, fun i b r o _ hr => (by cases hr)⟩,
    ⟨fun i r x _ hr => (by cases hr), hX.im0, hX.imNew, hX.keep, hX.frame, hX.grow, hX.os, hX.tape, hX.output, fun i p hp => (by cases hp)⟩⟩
   cases i with
   | zero => cases hi; exact hl
   | succ i => cases hi
 · exact ⟨_, _, _, ρ', Im', rfl, ⟨rfl, rfl⟩, hv, hE, hX⟩
theorem CallsF.melt {P : Program} {f : FuncId} {args : List AV} {fr : Bool} {T : Nat} {κ : K} {l : List κ.T} (h : CallsF P f args fr fun res B => res = .row 0 ∧ B = [.tree T κ l]) :
 CallsF P f args fr fun res B => res = .dat (.seq κ l) ∧ B = [] := by
 refine ⟨h.1, fun w Im vs h1 h2 h3 => ?_⟩
 refine (h.2 w Im vs h1 h2 h3).mono fun e w' he => ?_
 obtain ⟨v, res, B', ρ', Im', rfl, ⟨rfl, rfl⟩, hv, hE, hX⟩ := he
 have hi : (fun j => [Blk.tree T κ l][j]?) 0 = some (.tree T κ l) := rfl
 have hiN : (fun j => [Blk.tree T κ l][j]?) 0 ≠ none := by simp
 refine ⟨v, .dat (.seq κ l), [], ρ', fun b o => Im' b o ∨ ∃ r, ρ' 0 = some r ∧ r.has b, rfl, ⟨rfl, rfl⟩, .dat _ _ (aL hE hi hv fun r x o hr hx => .inr ⟨r, hr, hx⟩),
  ⟨fun i b hb => (by simp at hb), fun i j r s x hb => (by simp at hb), fun i r hb => (by simp at hb), fun i r x hb => (by simp at hb), fun i r x o hb => (by simp at hb), fun b o hb => ?_, fun i b r o hb => (by simp at hb)⟩,
  ⟨fun i r x hb => (by simp at hb), fun b o hb => .inl (hX.im0 b o hb), fun b o hb => ?_, hX.keep, hX.frame, hX.grow, hX.os, hX.tape, hX.output, fun i p hp => (by cases hp)⟩⟩
 · rcases hb with hb | ⟨r, hr, hx⟩
   · exact hE.imlt b o hb
   · exact hE.lt hiN hr hx
 · rcases hb with hb | ⟨r, hr, hx⟩
   · exact hX.imNew b o hb
   · exact .inr (hX.own 0 r b hiN hr hx)
theorem CallsG.mono {P : Program} {f : FuncId} {args : List AV} {Bg : List Blk} {k : Nat} {R R' : AV → List Blk → Prop} (h : CallsG P f args Bg k R) (hR : ∀ res B, R res B → R' res B) : CallsG P f args Bg k R' := by
 refine ⟨h.1, fun w Im ρ vs h1 h2 h3 h4 => ?_⟩
 refine (h.2 w Im ρ vs h1 h2 h3 h4).mono fun e w' he => ?_
 obtain ⟨v, res, B', ρ', Im', he, hRR, hX⟩ := he
 exact ⟨v, res, B', ρ', Im', he, hR _ _ hRR, hX⟩
theorem CallsF.mono {P : Program} {f : FuncId} {args : List AV} {fr : Bool} {R R' : AV → List Blk → Prop} (h : CallsF P f args fr R) (hR : ∀ res B, R res B → R' res B) : CallsF P f args fr R' := by
 refine ⟨h.1, fun w Im vs h1 h2 h3 => ?_⟩
 refine (h.2 w Im vs h1 h2 h3).mono fun e w' he => ?_
 obtain ⟨v, res, B', ρ', Im', he, hRR, hX⟩ := he
 exact ⟨v, res, B', ρ', Im', he, hR _ _ hRR, hX⟩
theorem CallsG.toD {P : Program} {f : FuncId} {args : List AV} {Bg : List Blk} {R : AV → List Blk → Prop} {X : AV} {cells : List AV} (hc : CallsG P f args Bg 1 R)
 (hR : ∀ res B, R res B → iA B X res ∧ ∃ bs, B = .box cells :: bs) : CallsG P f args Bg 1 fun res B => res = X ∧ B = [.box cells] := by
 refine ⟨hc.1, fun w Im ρ vs hsz hargs hE hT => ?_⟩
 refine (hc.2 w Im ρ vs hsz hargs hE hT).mono fun e w' ⟨v, res, B', ρ', Im', he, hRR, hav, henv, hpin, hext⟩ => ?_
 obtain ⟨hF, bs, hB⟩ := hR _ _ hRR
 let Pin : Nat → Prop := fun b => ∃ i r, i ≠ 0 ∧ B'[i]? ≠ none ∧ ρ' i = some r ∧ r.has b
 let Im2 : Nat → Nat → Prop := fun b o => Im' b o ∨ Pin b
 have h00 : B'[0]? = some (.box cells) := by rw [hB]; rfl
 have hrow : ∀ i κ l, (∃ T sh, B'[i]? = some (.row T κ l sh)) ∨ (∃ T, B'[i]? = some (.tree T κ l)) → ∀ u, AVR ρ' w'.heap Im' (.row i) u → RepD w'.heap Im2 (.seq κ l) u := by
  intro i κ l hb u hu
  have hi0 : i ≠ 0 := fun e => by
   subst e
   rcases hb with ⟨T, sh, hb⟩ | ⟨T, hb⟩ <;> (rw [h00] at hb; cases hb)
  have fin : ∀ (r : RI) (cs : Array Value) (T : Nat), B'[i]? ≠ none → ρ' i = some r → w'.heap[r.b]? = some (.cells cs T (0, 0)) → r.len = l.length → r.len ≤ r.cap → r.cap ≤ maxLen →
   (∀ k j, k < l.length → j < κ.sz → ∃ c : Value, cs[k * κ.sz + j]? = some c ∧ RepD w'.heap Im2 (o4 κ l k j) c) → RepD w'.heap Im2 (.seq κ l) (.slice (some ⟨r.b, 0, none⟩) r.len r.cap) := by
   intro r cs T hi hr h4 h1 h2 h3 h6
   have hcell' : ∀ k j, k < l.length → j < κ.sz → hcell w'.heap r.b (0 + k * κ.sz + j) = some (cs.getD (k * κ.sz + j) undef) := fun k j hk hj => by
    obtain ⟨c, hcc, _⟩ := h6 k j hk hj
    simp [hcell, h4, hcc, Array.getD_eq_getD_getElem?]
   have hlen : l.length ≤ r.cap := by omega
   rw [h1]
   refine .seq κ l r.b 0 r.cap (fun k j => cs.getD (k * κ.sz + j) undef) hlen h3 (fun k j hk hj => .inr ⟨i, r, hi0, hi, hr, .inl rfl⟩) hcell' (fun k j hk hj => ?_)
   obtain ⟨c, hcc, hcr⟩ := h6 k j hk hj
   simp only [Array.getD_eq_getD_getElem?, hcc, Option.getD_some]
   exact hcr
  rcases hb with ⟨T, sh, hb⟩ | ⟨T, hb⟩
  · have hB := henv.bl i _ hb
    cases hu with
    | rowN i hi => simp only [BlkR, hi] at hB; exact .empty κ l hB _ _
    | row i r hi =>
     simp only [BlkR, hi] at hB
     obtain ⟨h1, h2, h3, cs, T0, h4, h5, h6⟩ := hB
     refine fin r cs _ (by simp [hb]) hi h4 h1 h2 h3 fun k j hk hj => ?_
     obtain ⟨c, hcc, hcr⟩ := h6 k j hk hj
     exact ⟨c, hcc, hcr.mono (fun _ _ _ => rfl) (fun _ _ => .inl)⟩
  · have hB := henv.bl i _ hb
    cases hu with
    | rowN i hi => simp only [BlkR, hi] at hB; exact .empty κ l hB _ _
    | row i r hi =>
     simp only [BlkR, hi] at hB
     obtain ⟨h1, h2, h3, cs, Fk, T0, h4, h5, hFF, _, h6⟩ := hB
     refine fin r cs _ (by simp [hb]) hi h4 h1 h2 h3 fun k j hk hj => ?_
     obtain ⟨c, hcc, hcr⟩ := h6 k j hk hj
     exact ⟨c, hcc, hcr.melt fun x o hx => .inr ⟨i, r, hi0, by simp [hb], hi, .inr (hFF k j x hk hj hx).1⟩⟩
 have hX := frz_R (ρ' := ρ') hF hav hrow (fun _ _ => .inl)
 have n0 : B'[0]? ≠ none := by rw [h00]; simp
 have far : ∀ {r : RI} {x : Nat}, ρ' 0 = some r → r.has x → ¬ Pin x := fun {r x} hr hx ⟨i, s, hi0, hi, hs, hsx⟩ => hi0 (henv.inj i 0 s r x hi n0 hs hr hsx hx)
 have z : ∀ {i : Nat} {b : Blk}, (fun j => [Blk.box cells][j]?) i = some b → i = 0 ∧ b = .box cells := fun {i b} hi => by
  cases i with
  | zero => cases hi; exact ⟨rfl, rfl⟩
  | succ i => cases hi
 have z' : ∀ {i : Nat}, (fun j => [Blk.box cells][j]?) i ≠ none → i = 0 := fun {i} hi => by
  cases i with
  | zero => rfl
  | succ i => exact absurd rfl hi
 refine ⟨v, X, [.box cells], ρ', Im2, he, ⟨rfl, rfl⟩, hX, ⟨fun i b hi => ?_, fun i j r s x hi hj _ _ _ _ => (z' hi).trans (z' hj).symm, fun i r hi hr => ?_, fun i r x hi hr hx => ?_, fun i r x o hi hr hx => ?_, fun b o h => ?_, fun i b r o hi hr => ?_⟩,
  fun j hj => ⟨by simpa using hj, (hpin j hj).2⟩,
  ⟨fun i r x hi hr hx => ?_, fun b o h => .inl (hext.im0 b o h), fun b o h => ?_, hext.keep, hext.frame, hext.grow, hext.os, hext.tape, hext.output, fun _ _ h => by cases h⟩⟩
 · obtain ⟨rfl, rfl⟩ := z hi
   obtain ⟨r, cs, T, hr, hh, hsz, hcs⟩ := henv.bl 0 _ h00
   exact ⟨r, cs, T, hr, hh, hsz, fun j a ha => let ⟨c, h1, h2⟩ := hcs j a ha; ⟨c, h1, h2.mono (fun _ _ _ => rfl) (fun _ _ => .inl)⟩⟩
 · obtain rfl := z' hi
   exact henv.fpNe 0 r n0 hr
 · obtain rfl := z' hi
   exact henv.fpLt 0 r x n0 hr hx
 · obtain rfl := z' hi
   exact fun h => h.elim (henv.fpIm 0 r x o n0 hr hx) (far hr (.inr hx))
 · exact h.elim (henv.imlt b o) fun ⟨i, r, _, hi, hr, hx⟩ => henv.lt hi hr hx
 · obtain ⟨rfl, rfl⟩ := z hi
   rw [← henv.imOwn 0 _ r o h00 hr]
   exact ⟨fun h => h.elim id fun h => absurd h (far hr (.inl rfl)), .inl⟩
 · obtain rfl := z' hi
   exact hext.own 0 r x n0 hr hx
 · exact h.elim (hext.imNew b o) fun ⟨i, r, _, hi, hr, hx⟩ => .inr (hext.own i r b hi hr hx)
theorem AVR.noid1 {h : Array Obj} {Im : Nat → Nat → Prop} {ρ ρ' : Rho} {i : Nat} {a : AV} {v : Value} (hρ : ∀ j, j ≠ i → ρ' j = ρ j) (ha : a.kill i = a) (hr : AVR ρ h Im a v) : AVR ρ' h Im a v := by
 have := hr.kill hρ
 rwa [ha] at this
theorem CallsG.nilm {P : Program} {f : FuncId} {args : List AV} {d : Dat} {R : AV → List Blk → Prop} (h : CallsG P f args [.box [.dat d, .mp 1], .mp [] true] 1 R) (ha : args.map (AV.kill 1) = args) :
 CallsG P f args [.box [.dat d, .nilm]] 1 R := by
 refine ⟨h.1, fun w Im ρ vs h1 h2 hE h4 => ?_⟩
 have hρ : ∀ j, j ≠ 1 → s5 ρ 1 none j = ρ j := fun j hj => r7 _ hj
 have h1n : s5 ρ 1 none 1 = none := updR_same _ _ _
 have hargs : ∀ j a, args[j]? = some a → AVR (s5 ρ 1 none) w.heap Im a (vs.getD j undef) := fun j a hj => by
  refine AVR.noid1 hρ ?_ (h2 j a hj)
  have := congrArg (fun l => l[j]?) ha
  simp only [List.getElem?_map, hj, Option.map_some] at this
  exact Option.some.inj this
 have hb0 := hE.bl 0 _ rfl
 obtain ⟨r, cs, T, hr, hh, hsz, hcs⟩ := hb0
 have hr' : s5 ρ 1 none 0 = some r := by rw [hρ 0 (by decide)]; exact hr
 have i0 : ∀ {i : Nat} {s : RI}, s5 ρ 1 none i = some s → (fun j => ([.box [.dat d, .mp 1], .mp [] true] : List Blk)[j]?) i ≠ none → i = 0 ∧ s = r := fun {i s} hs hi => by
  match i, hs, hi with
  | 0, hs, _ => rw [hr'] at hs; exact ⟨rfl, (Option.some.inj hs).symm⟩
  | 1, hs, _ => rw [h1n] at hs; cases hs
  | i + 2, _, hi => exact absurd rfl hi
 have nz : (fun j => ([.box [.dat d, .nilm]] : List Blk)[j]?) 0 ≠ none := by simp
 have hE' : Env (fun j => ([.box [.dat d, .mp 1], .mp [] true] : List Blk)[j]?) (s5 ρ 1 none) Im w.heap := by
  refine ⟨fun i b hi => ?_, fun i j s t x hi hj hs ht hx hy => (i0 hs hi).1.trans (i0 ht hj).1.symm, fun i s hi hs => ?_, fun i s x hi hs hx => ?_, fun i s x o hi hs hx => ?_, hE.imlt, fun i b s o hi hs => ?_⟩
  · match i, hi with
    | 0, hi =>
     cases hi
     refine ⟨r, cs, T, hr', hh, ⟨hsz.len, fun h => by simp [p8] at h⟩, fun j a hj => ?_⟩
     match j, hj with
     | 0, hj =>
      cases hj
      obtain ⟨c, hc1, hc2⟩ := hcs 0 _ rfl
      exact ⟨c, hc1, AVR.noid1 hρ rfl hc2⟩
     | 1, hj =>
      cases hj
      obtain ⟨c, hc1, hc2⟩ := hcs 1 _ rfl
      cases hc2
      exact ⟨_, hc1, .mpN 1 h1n⟩
    | 1, hi =>
     cases hi
     simp only [BlkR, h1n]
     exact ⟨trivial, trivial⟩
    | i + 2, hi => simp at hi
  · obtain ⟨rfl, rfl⟩ := i0 hs hi
    exact hE.fpNe 0 _ nz hr
  · obtain ⟨rfl, rfl⟩ := i0 hs hi
    exact hE.fpLt 0 _ x nz hr hx
  · obtain ⟨rfl, rfl⟩ := i0 hs hi
    exact hE.fpIm 0 _ x o nz hr hx
  · obtain ⟨rfl, rfl⟩ := i0 hs (fun e => by have e2 := hi.symm.trans e; cases e2)
    cases hi
    exact hE.imOwn 0 (.box [.dat d, .nilm]) _ o rfl hr
 have hG : ∀ x, (GP.of 2 (s5 ρ 1 none)).g x → (GP.of 1 ρ).g x := fun x ⟨j, s, hj, hs, hx⟩ => by
  match j, hs with
  | 0, hs => rw [hr'] at hs; cases hs; exact ⟨0, r, by decide, hr, hx⟩
  | 1, hs => rw [h1n] at hs; cases hs
  | j + 2, _ => omega
 refine (h.2 w Im (s5 ρ 1 none) vs h1 hargs hE' h4).mono fun e w' he => ?_
 obtain ⟨v, res, B', ρ', Im', he, hRR, hv, hEnv, hpin, hX⟩ := he
 refine ⟨v, res, B', ρ', Im', he, hRR, hv, hEnv, fun j hj => ⟨(hpin j hj).1, ?_⟩, ?_⟩
 · obtain rfl : j = 0 := by omega
   exact ((hpin 0 hj).2).trans (hρ 0 (by decide))
 · exact ⟨fun i s x hi hs hx => (hX.own i s x hi hs hx).imp (hG x) id, hX.im0, fun b o hI => (hX.imNew b o hI).imp id (fun q => q.imp (hG b) id), hX.keep, fun b hb hn => hX.frame b hb (fun q => hn (hG b q)), hX.grow, hX.os, hX.tape, hX.output, fun i p hp => by cases hp⟩
end Vg
namespace Vg
open Go Go.Sort Go.Proofs Go.Shelf
def pow10C : List Value := Lib.pow10Tab.map (Value.int .u64)
theorem tab_is {P : Program} {w : World} {Im : Nat → Nat → Prop} {name : String} {k : IntKind} {zs : List Int} {g : Nat} (hT : TabH w.heap Im) (hg : P.globalNamed name = some g) (hm : (g, zs.map (Value.int k)) ∈ nI) (h0 : 0 < zs.length) : Lib.TabIs P w name k zs := by
 have hc : ∀ i, i ≤ zs.length → hcell w.heap g i = (zs.map (Value.int k))[i]? := fun i hi => (hT.tab _ hm i (by simpa using hi)).2
 unfold Lib.TabIs World.var?
 rw [hg]
 simp only [Option.bind_some]
 have h1 := hc 0 omG
 unfold hcell at hc h1
 split
 · rename_i cs T f e
   rw [e] at hc
   simp only at hc
   congr 1
   apply Array.ext'
   apply List.ext_getElem?
   intro i
   rcases Nat.lt_or_ge i zs.length with hi | hi
   · simpa using hc i omG
   · have hn := hc zs.length (Nat.le_refl _)
     have hs : cs.size ≤ zs.length := by
      rw [List.getElem?_eq_none (by simp)] at hn
      exact Array.getElem?_eq_none_iff.1 hn
     rw [List.getElem?_eq_none (by simpa using Nat.le_trans hs hi), List.getElem?_eq_none (by simpa using hi)]
 · rename_i hno
   exfalso
   split at h1
   · rename_i cs T f e
     exact hno _ _ _ e
   · rw [List.getElem?_map, List.getElem?_eq_getElem h0] at h1
     cases h1
theorem itoaV {P : Program} {q : Ren} {f : FuncId} {g : Nat} (L : LaysM.n171 P q) (hq : q.f 171 = f) (hf : ∃ fn, P.funcs[f]? = some fn ∧ (fn.name == "runtime.NumGoroutine") = false ∧ fn.body.isNone = false)
 (hg : P.globalNamed "internal/strconv.uint64pow10" = some g) (hm : (g, pow10C) ∈ nI) (n : Int) (h0 : -9223372036854775808 ≤ n) (h1 : n ≤ 9223372036854775807) :
 CallsV P f [.dat (.i n)] (.dat (.str ⟨(Lib.itoa n).toArray⟩)) := by
 subst hq
 refine ⟨hf, fun w Im vs hs ha him => ?_⟩
 have h2 := ha 0 (.dat (.i n)) rfl
 have hv : vs = #[.int .i64 n] := by
  have hs' : vs.size = 1 := hs
  apply Array.ext
  · simpa using hs'
  · intro i hi hi'
    have : i = 0 := by simp at hi'; omega
    subst this
    cases h2 with
    | dat _ _ hd =>
     generalize hx : vs.getD 0 undef = x at hd
     cases hd
     simpa [Array.getD, hs'] using hx
 subst hv
 refine (Any.strconv_Itoa L n h0 h1 w (tab_is him.tab hg hm (by simp [Lib.pow10Tab_length]))).mono ?_
 rintro e w' ⟨rfl, k, os, rfl⟩
 refine ⟨_, _, [], fun _ => none, fun _ _ => False, rfl, ⟨rfl, rfl⟩, .dat _ _ (.str _), ⟨fun i b hi => (by simp at hi), fun i j r s x hi => absurd rfl hi, fun i r hi => absurd rfl hi, fun i r x hi => absurd rfl hi, fun i r x o hi => absurd rfl hi, fun b o h => h.elim, fun i b r o hi => (by simp at hi)⟩, ?_⟩
 refine ⟨fun i r x hi => absurd rfl hi, fun b o h => h.elim, fun b o h => h.elim, fun b o h => h.elim, fun b hb _ => ?_, ?_, rfl, rfl, rfl, fun i p hp => (by cases hp)⟩
 · show (w.heap ++ os)[b]? = w.heap[b]?
   exact Array.getElem?_append_left hb
 · show w.heap.size ≤ (w.heap ++ os).size
   simp
theorem kY {P : Program} {W : World} {name : String} {k : IntKind} {zs : List Int} {g : Nat} (hT : Lib.TabIs P W name k zs) (hg : P.globalNamed name = some g) (ht : nI = [(g, zs.map (Value.int k))])
 (he : ∀ g ∈ mH, ∃ v, hcell W.heap g 0 = some v ∧ (v = .nilIface ∨ ∃ t x, v = .iface t x)) (hn : ∀ g ∈ hJ, ∃ m, hcell W.heap g 0 = some (.int .i64 m)) : TabH W.heap fun b _ => b < W.heap.size := by
 unfold Lib.TabIs World.var? at hT
 rw [hg] at hT
 simp only [Option.bind_some] at hT
 split at hT
 · rename_i cs T f e
   have hlt : g < W.heap.size := (Array.getElem?_eq_some_iff.1 e).1
   refine ⟨fun t hm i hi => ?_, fun g hm => ?_, fun g hm => ?_⟩
   · rw [ht] at hm
     obtain rfl := List.mem_singleton.1 hm
     refine ⟨hlt, ?_⟩
     simp only [hcell, e]
     rw [Option.some.inj hT]
     simp
   · obtain ⟨v, h1, h2⟩ := he g hm
     exact ⟨eN h1, v, h1, h2⟩
   · obtain ⟨m, h1⟩ := hn g hm
     exact ⟨eN h1, m, h1⟩
 · cases hT
end Vg
namespace Vg
open Go Go.Proofs Go.Shelf Go.RowKit Go.Sort
def k9 (s : ByteArray) : Int × Bool := match Lib.atoiAll s.data.toList with
 | .ok v => (v, false)
 | .range => (Lib.atoiSat s.data.toList, true)
 | _ => (0, true)
theorem lO {w w' : World} {Im : Nat → Nat → Prop} {n : Int} {b : Bool} {v : Value} (hb : Below w.heap.size w w') (hlt : ∀ b o, Im b o → b < w.heap.size) (hv : RepD w'.heap Im (.err b) v) :
 ∃ v' res B' ρ' Im', Ending.returned (.tuple #[.int .i64 n, v]) = .returned v' ∧ (res = .tup [.dat (.i n), .dat (.err b)] ∧ B' = []) ∧ AVR ρ' w'.heap Im' res v' ∧ Env (fun j => B'[j]?) ρ' Im' w'.heap ∧
  Ext w .nil (uE Im false) (fun j => B'[j]?) ρ' Im' w' := by
 refine ⟨_, _, [], fun _ => none, Im, rfl, ⟨rfl, rfl⟩, ?_, ⟨fun i b hi => (by simp at hi), fun i j r s x hi => absurd rfl hi, fun i r hi => absurd rfl hi, fun i r x hi => absurd rfl hi, fun i r x o hi => absurd rfl hi, fun b o h => Nat.lt_of_lt_of_le (hlt b o h) hb.size, fun i b r o hi => (by simp at hi)⟩, ?_⟩
 · refine .tup _ _ (fun j => (#[.int .i64 n, v] : Array Value).getD j undef) rfl (fun j hj => ?_) (fun j a ha => ?_)
   · have : j = 0 ∨ j = 1 := by simp at hj; omega
     rcases this with rfl | rfl <;> rfl
   · match j, ha with
     | 0, ha => cases ha; exact .dat _ _ (.int _ _)
     | 1, ha => cases ha; exact .dat _ _ hv
 · exact ⟨fun i r x hi => absurd rfl hi, fun _ _ h => h, fun _ _ h => .inl h, fun b o h => y8 (hb.block b (hlt b o h)) o, fun b h _ => hb.block b h, hb.size, hb.os, hb.tape, hb.output, fun i p hp => (by cases hp)⟩
theorem atoiV {P : Program} {q : Ren} {f : FuncId} (L : LaysC.n172 P q) (hq : q.f 172 = f) (hf : ∃ fn, P.funcs[f]? = some fn ∧ (fn.name == "runtime.NumGoroutine") = false ∧ fn.body.isNone = false)
 (h15 : q.g 15 ∈ mH) (h16 : q.g 16 ∈ mH) (s : ByteArray) (hs : s.size ≤ 281474976710656) :
 CallsV P f [.dat (.str s)] (.tup [.dat (.i (k9 s).1), .dat (.err (k9 s).2)]) := by
 subst hq
 refine ⟨hf, fun w Im vs hz ha him => ?_⟩
 have a0 := ha 0 (.dat (.str s)) rfl
 have hv : vs = #[.string s] := by
  have hz' : vs.size = 1 := hz
  apply Array.ext
  · simpa using hz'
  · intro i hi hi'
    have : i = 0 := by simp at hi'; omega
    subst this
    cases a0 with
    | dat _ _ hd =>
     generalize hx : vs.getD 0 undef = x at hd
     cases hd
     simpa [Array.getD, hz'] using hx
 subst hv
 obtain ⟨_, ev, he1, he2⟩ := him.tab.err _ h15
 obtain ⟨_, ev', he1', he2'⟩ := him.tab.err _ h16
 unfold k9
 cases hA : Lib.atoiAll s.data.toList with
 | ok v =>
  refine (Any.strconv_Atoi_ok L s omG v hA w).mono ?_
  rintro e w' ⟨rfl, hw⟩
  refine lO (b := false) ?_ him.lt .errN
  rcases hw with rfl | ⟨t, rfl⟩
  · exact Below.refl _ _
  · exact Lib.bytesWorld_below _ _ _
 | range =>
  refine (Any.strconv_Atoi_range L s hs hA ev' w (by rw [r8]; exact he1') he2').mono ?_
  rintro e w' ⟨N, rfl, _, _, hb⟩
  exact lO (b := true) hb him.lt (.errS _ _)
 | _ =>
  refine (Any.strconv_Atoi_syntax L s hs hA ev w (by rw [r8]; exact he1) he2).mono ?_
  rintro e w' ⟨N, rfl, _, _, hb⟩
  exact lO (b := true) hb him.lt (.errS _ _)
end Vg
namespace Vg
open Go Go.Proofs Go.Shelf Go.RowKit
theorem cutV {P : Program} {q : Ren} {f : FuncId} (L : Lays.n145 P q) (hq : q.f 145 = f)
 (hf : ∃ fn, P.funcs[f]? = some fn ∧ (fn.name == "runtime.NumGoroutine") = false ∧ fn.body.isNone = false) (hg : q.g 1 ∈ hJ) (s sep : ByteArray) (hs : s.size < 4294967281) :
 CallsV P f [.dat (.str s), .dat (.str sep)] (.tup [.dat (.str ⟨(Lib.cut s.data.toList sep.data.toList).1.toArray⟩), .dat (.str ⟨(Lib.cut s.data.toList sep.data.toList).2.1.toArray⟩), .dat (.bool (Lib.cut s.data.toList sep.data.toList).2.2)]) := by
 subst hq
 refine ⟨hf, fun w Im vs hz ha him => ?_⟩
 have a0 := ha 0 (.dat (.str s)) rfl
 have a1 := ha 1 (.dat (.str sep)) rfl
 have hv : vs = #[.string s, .string sep] := by
  have hz' : vs.size = 2 := hz
  apply Array.ext
  · simpa using hz'
  · intro i hi hi'
    have : i = 0 ∨ i = 1 := by simp at hi'; omega
    rcases this with rfl | rfl
    · cases a0 with
      | dat _ _ hd =>
       generalize hx : vs.getD 0 undef = x at hd
       cases hd
       simpa [Array.getD, hz'] using hx
    · cases a1 with
      | dat _ _ hd =>
       generalize hx : vs.getD 1 undef = x at hd
       cases hd
       simpa [Array.getD, hz'] using hx
 subst hv
 obtain ⟨_, m, hm⟩ := him.tab.num _ hg
 refine (Any.strings_Cut L s sep m w hs (by rw [r8]; exact hm)).mono ?_
 rintro e w' ⟨rfl, n, rfl⟩
 have hb : Below w.heap.size w (w.drewN n) := below_drewN (Below.refl _ w) n
 generalize (Lib.cut s.data.toList sep.data.toList).1 = x
 generalize (Lib.cut s.data.toList sep.data.toList).2.1 = y
 generalize (Lib.cut s.data.toList sep.data.toList).2.2 = z
 refine ⟨_, _, [], fun _ => none, fun _ _ => False, rfl, ⟨rfl, rfl⟩, ?_, ⟨fun i b hi => (by simp at hi), fun i j r s x hi => absurd rfl hi, fun i r hi => absurd rfl hi, fun i r x hi => absurd rfl hi, fun i r x o hi => absurd rfl hi, fun b o h => h.elim, fun i b r o hi => (by simp at hi)⟩, ?_⟩
 · refine .tup _ _ (fun j => #[Value.string ⟨x.toArray⟩, Value.string ⟨y.toArray⟩, Value.bool z].getD j undef) rfl (fun j hj => ?_) (fun j a hj => ?_)
   · have : j < 3 := hj
     match j, this with
     | 0, _ => rfl
     | 1, _ => rfl
     | 2, _ => rfl
   · match j, hj with
     | 0, hj => cases hj; exact .dat _ _ (.str _)
     | 1, hj => cases hj; exact .dat _ _ (.str _)
     | 2, hj => cases hj; exact .dat _ _ (.bool _)
     | j + 3, hj => cases hj
 · refine ⟨fun i r x hi => absurd rfl hi, fun b o h => h.elim, fun b o h => h.elim, fun b o h => h.elim, fun c hc _ => ?_, ?_, ?_, ?_, ?_, fun i p hp => (by cases hp)⟩
   · exact hb.block c hc
   · exact hb.size
   · exact hb.os
   · exact hb.tape
   · exact hb.output
end Vg
