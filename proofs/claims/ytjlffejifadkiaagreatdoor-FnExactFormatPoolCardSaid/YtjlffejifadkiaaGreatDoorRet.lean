/- Results of contracts in other shapes: a nil slice as a row, a tree given up. No condition. -/
import Derived.Test.YtjlffejifadkiaaGreatDoorTy
import Derived.Shelf.Small.Strs
import Derived.Shelf.Strconv.Itoa3
import Derived.Shelf.Strings.OnBuilder
namespace Vg
open Go
theorem CallsF.nilRow {P : Program} {f : FuncId} {args : List AV} {fr : Bool} {T : Nat} {κ : K} {l : List κ.T} (h : CallsF P f args fr fun res B => (res = .nils ∧ B = [] ∧ l.length = 0) ∨ (res = .row 0 ∧ B = [.row T κ l false])) :
 CallsF P f args fr fun res B => res = .row 0 ∧ B = [.row T κ l false] := by
 refine ⟨h.1, fun w Im vs h1 h2 h3 => ?_⟩
 refine (h.2 w Im vs h1 h2 h3).mono fun e w' he => ?_
 obtain ⟨v, res, B', ρ', Im', rfl, hR, hv, hE, hX⟩ := he
 rcases hR with ⟨rfl, rfl, hl⟩ | ⟨rfl, rfl⟩
 · obtain rfl := qdm hv
   refine ⟨_, .row 0, [.row T κ l false], fun _ => none, Im', rfl, ⟨rfl, rfl⟩, .rowN 0 rfl, ⟨fun i b hi => ?_, fun i j r s x _ _ hr => (by cases hr), fun i r _ hr => (by cases hr), fun i r x _ hr => (by cases hr), fun i r x o _ hr => (by cases hr), hE.imlt, fun i b r o _ hr => (by cases hr)⟩,
    ⟨fun i r x _ hr => (by cases hr), hX.im0, hX.imNew, hX.keep, hX.frame, hX.grow, hX.os, hX.tape, hX.output, fun i p hp => (by cases hp)⟩⟩
   cases i with
   | zero => cases hi; exact hl
   | succ i => cases hi
 · exact ⟨_, _, _, ρ', Im', rfl, ⟨rfl, rfl⟩, hv, hE, hX⟩
theorem CallsF.melt {P : Program} {f : FuncId} {args : List AV} {fr : Bool} {T : Nat} {κ : K} {l : List κ.T} (h : CallsF P f args fr fun res B => res = .row 0 ∧ B = [.tree T κ l]) :
 CallsF P f args fr fun res B => res = .dat (.seq κ l) ∧ B = [] := by
 refine ⟨h.1, fun w Im vs h1 h2 h3 => ?_⟩
 refine (h.2 w Im vs h1 h2 h3).mono fun e w' he => ?_
 obtain ⟨v, res, B', ρ', Im', rfl, ⟨rfl, rfl⟩, hv, hE, hX⟩ := he
 have hi : (fun j => [Blk.tree T κ l][j]?) 0 = some (.tree T κ l) := rfl
 have hiN : (fun j => [Blk.tree T κ l][j]?) 0 ≠ none := by simp
 refine ⟨v, .dat (.seq κ l), [], ρ', fun b o => Im' b o ∨ ∃ r, ρ' 0 = some r ∧ r.has b, rfl, ⟨rfl, rfl⟩, .dat _ _ (qla hE hi hv fun r x o hr hx => .inr ⟨r, hr, hx⟩),
  ⟨fun i b hb => (by simp at hb), fun i j r s x hb => (by simp at hb), fun i r hb => (by simp at hb), fun i r x hb => (by simp at hb), fun i r x o hb => (by simp at hb), fun b o hb => ?_, fun i b r o hb => (by simp at hb)⟩,
  ⟨fun i r x hb => (by simp at hb), fun b o hb => .inl (hX.im0 b o hb), fun b o hb => ?_, hX.keep, hX.frame, hX.grow, hX.os, hX.tape, hX.output, fun i p hp => (by cases hp)⟩⟩
 · rcases hb with hb | ⟨r, hr, hx⟩
   · exact hE.imlt b o hb
   · exact hE.lt hiN hr hx
 · rcases hb with hb | ⟨r, hr, hx⟩
   · exact hX.imNew b o hb
   · exact .inr (hX.own 0 r b hiN hr hx)
end Vg

namespace Vg
open Go
theorem CallsG.mono {P : Program} {f : FuncId} {args : List AV} {Bg : List Blk} {k : Nat} {R R' : AV → List Blk → Prop} (h : CallsG P f args Bg k R) (hR : ∀ res B, R res B → R' res B) : CallsG P f args Bg k R' := by
 refine ⟨h.1, fun w Im ρ vs h1 h2 h3 h4 => ?_⟩
 refine (h.2 w Im ρ vs h1 h2 h3 h4).mono fun e w' he => ?_
 obtain ⟨v, res, B', ρ', Im', he, hRR, hX⟩ := he
 exact ⟨v, res, B', ρ', Im', he, hR _ _ hRR, hX⟩
theorem CallsF.mono {P : Program} {f : FuncId} {args : List AV} {fr : Bool} {R R' : AV → List Blk → Prop} (h : CallsF P f args fr R) (hR : ∀ res B, R res B → R' res B) : CallsF P f args fr R' := by
 refine ⟨h.1, fun w Im vs h1 h2 h3 => ?_⟩
 refine (h.2 w Im vs h1 h2 h3).mono fun e w' he => ?_
 obtain ⟨v, res, B', ρ', Im', he, hRR, hX⟩ := he
 exact ⟨v, res, B', ρ', Im', he, hR _ _ hRR, hX⟩
end Vg

namespace Vg
open Go
theorem AVR.noid1 {h : Array Obj} {Im : Nat → Nat → Prop} {ρ ρ' : Rho} {i : Nat} {a : AV} {v : Value} (hρ : ∀ j, j ≠ i → ρ' j = ρ j) (ha : a.kill i = a) (hr : AVR ρ h Im a v) : AVR ρ' h Im a v := by
 have := hr.kill hρ
 rwa [ha] at this
theorem CallsG.nilm {P : Program} {f : FuncId} {args : List AV} {d : Dat} {R : AV → List Blk → Prop} (h : CallsG P f args [.box [.dat d, .mp 1], .mp [] true] 1 R) (ha : args.map (AV.kill 1) = args) :
 CallsG P f args [.box [.dat d, .nilm]] 1 R := by
 refine ⟨h.1, fun w Im ρ vs h1 h2 hE h4 => ?_⟩
 have hρ : ∀ j, j ≠ 1 → qh1 ρ 1 none j = ρ j := fun j hj => qc9 _ hj
 have h1n : qh1 ρ 1 none 1 = none := updR_same _ _ _
 have hargs : ∀ j a, args[j]? = some a → AVR (qh1 ρ 1 none) w.heap Im a (vs.getD j undef) := fun j a hj => by
  refine AVR.noid1 hρ ?_ (h2 j a hj)
  have := congrArg (fun l => l[j]?) ha
  simp only [List.getElem?_map, hj, Option.map_some] at this
  exact Option.some.inj this
 have hb0 := hE.bl 0 _ rfl
 obtain ⟨r, cs, T, hr, hh, hsz, hcs⟩ := hb0
 have hr' : qh1 ρ 1 none 0 = some r := by rw [hρ 0 (by decide)]; exact hr
 have i0 : ∀ {i : Nat} {s : RI}, qh1 ρ 1 none i = some s → (fun j => ([.box [.dat d, .mp 1], .mp [] true] : List Blk)[j]?) i ≠ none → i = 0 ∧ s = r := fun {i s} hs hi => by
  match i, hs, hi with
  | 0, hs, _ => rw [hr'] at hs; exact ⟨rfl, (Option.some.inj hs).symm⟩
  | 1, hs, _ => rw [h1n] at hs; cases hs
  | i + 2, _, hi => exact absurd rfl hi
 have nz : (fun j => ([.box [.dat d, .nilm]] : List Blk)[j]?) 0 ≠ none := by simp
 have hE' : Env (fun j => ([.box [.dat d, .mp 1], .mp [] true] : List Blk)[j]?) (qh1 ρ 1 none) Im w.heap := by
  refine ⟨fun i b hi => ?_, fun i j s t x hi hj hs ht hx hy => (i0 hs hi).1.trans (i0 ht hj).1.symm, fun i s hi hs => ?_, fun i s x hi hs hx => ?_, fun i s x o hi hs hx => ?_, hE.imlt, fun i b s o hi hs => ?_⟩
  · match i, hi with
    | 0, hi =>
     cases hi
     refine ⟨r, cs, T, hr', hh, hsz, fun j a hj => ?_⟩
     match j, hj with
     | 0, hj =>
      cases hj
      obtain ⟨c, hc1, hc2⟩ := hcs 0 _ rfl
      exact ⟨c, hc1, AVR.noid1 hρ rfl hc2⟩
     | 1, hj =>
      cases hj
      obtain ⟨c, hc1, hc2⟩ := hcs 1 _ rfl
      cases hc2
      exact ⟨_, hc1, .mpN 1 h1n⟩
    | 1, hi =>
     cases hi
     simp only [BlkR, h1n]
     exact ⟨trivial, trivial⟩
    | i + 2, hi => simp at hi
  · obtain ⟨rfl, rfl⟩ := i0 hs hi
    exact hE.fpNe 0 _ nz hr
  · obtain ⟨rfl, rfl⟩ := i0 hs hi
    exact hE.fpLt 0 _ x nz hr hx
  · obtain ⟨rfl, rfl⟩ := i0 hs hi
    exact hE.fpIm 0 _ x o nz hr hx
  · obtain ⟨rfl, rfl⟩ := i0 hs (fun e => by have e2 := hi.symm.trans e; cases e2)
    cases hi
    exact hE.imOwn 0 (.box [.dat d, .nilm]) _ o rfl hr
 have hG : ∀ x, (GP.of 2 (qh1 ρ 1 none)).g x → (GP.of 1 ρ).g x := fun x ⟨j, s, hj, hs, hx⟩ => by
  match j, hs with
  | 0, hs => rw [hr'] at hs; cases hs; exact ⟨0, r, by decide, hr, hx⟩
  | 1, hs => rw [h1n] at hs; cases hs
  | j + 2, _ => omega
 refine (h.2 w Im (qh1 ρ 1 none) vs h1 hargs hE' h4).mono fun e w' he => ?_
 obtain ⟨v, res, B', ρ', Im', he, hRR, hv, hEnv, hpin, hX⟩ := he
 refine ⟨v, res, B', ρ', Im', he, hRR, hv, hEnv, fun j hj => ⟨(hpin j hj).1, ?_⟩, ?_⟩
 · obtain rfl : j = 0 := by omega
   exact ((hpin 0 hj).2).trans (hρ 0 (by decide))
 · exact ⟨fun i s x hi hs hx => (hX.own i s x hi hs hx).imp (hG x) id, hX.im0, fun b o hI => (hX.imNew b o hI).imp id (fun q => q.imp (hG b) id), hX.keep, fun b hb hn => hX.frame b hb (fun q => hn (hG b q)), hX.grow, hX.os, hX.tape, hX.output, fun i p hp => by cases hp⟩
end Vg

namespace Vg
open Go Go.Proofs Go.Shelf Go.RowKit
theorem compV {P : Program} {q : Ren} {f : FuncId} (L : Lays.n106 P q) (hq : q.f 106 = f) (hf : ∃ fn, P.funcs[f]? = some fn ∧ (fn.name == "runtime.NumGoroutine") = false ∧ fn.body.isNone = false) (a b : ByteArray) :
 CallsV P f [.dat (.str a), .dat (.str b)] (.dat (.i (Lib.compareBytes a.data.toList b.data.toList))) := by
 subst hq
 refine ⟨hf, fun w Im vs hs ha him => ?_⟩
 have h1 := ha 0 (.dat (.str a)) rfl
 have h2 := ha 1 (.dat (.str b)) rfl
 have hv : vs = #[.string a, .string b] := by
  have hs' : vs.size = 2 := hs
  apply Array.ext
  · simpa using hs'
  · intro i hi hi'
    have : i = 0 ∨ i = 1 := by simp at hi'; omega
    rcases this with rfl | rfl
    · cases h1 with
      | dat _ _ hd =>
       generalize hx : vs.getD 0 undef = x at hd
       cases hd
       simpa [Array.getD, hs'] using hx
    · cases h2 with
      | dat _ _ hd =>
       generalize hx : vs.getD 1 undef = x at hd
       cases hd
       simpa [Array.getD, hs'] using hx
 subst hv
 refine (Any.strings_Compare L a b w).mono ?_
 rintro e w' ⟨rfl, rfl⟩
 refine ⟨_, _, [], fun _ => none, fun _ _ => False, rfl, ⟨rfl, rfl⟩, .dat _ _ (.int _ _), ⟨fun i b hi => (by simp at hi), fun i j r s x hi => absurd rfl hi, fun i r hi => absurd rfl hi, fun i r x hi => absurd rfl hi, fun i r x o hi => absurd rfl hi, fun b o h => h.elim, fun i b r o hi => (by simp at hi)⟩, ?_⟩
 exact ⟨fun i r x hi => absurd rfl hi, fun b o h => h.elim, fun b o h => h.elim, fun b o h => h.elim, fun b hb _ => rfl, Nat.le_refl _, rfl, rfl, rfl, fun i p hp => (by cases hp)⟩
end Vg

namespace Vg
open Go Go.Sort Go.Proofs Go.Shelf
def pow10C : List Value := Lib.pow10Tab.map (Value.int .u64)
theorem tab_is {P : Program} {w : World} {Im : Nat → Nat → Prop} {name : String} {k : IntKind} {zs : List Int} {g : Nat} (hT : TabH w.heap Im) (hg : P.globalNamed name = some g) (hm : (g, zs.map (Value.int k)) ∈ qgc) (h0 : 0 < zs.length) : Lib.TabIs P w name k zs := by
 have hc : ∀ i, i ≤ zs.length → hcell w.heap g i = (zs.map (Value.int k))[i]? := fun i hi => (hT.tab _ hm i (by simpa using hi)).2
 unfold Lib.TabIs World.var?
 rw [hg]
 simp only [Option.bind_some]
 have h1 := hc 0 omG
 unfold hcell at hc h1
 split
 · rename_i cs T f e
   rw [e] at hc
   simp only at hc
   congr 1
   apply Array.ext'
   apply List.ext_getElem?
   intro i
   rcases Nat.lt_or_ge i zs.length with hi | hi
   · simpa using hc i omG
   · have hn := hc zs.length (Nat.le_refl _)
     have hs : cs.size ≤ zs.length := by
      rw [List.getElem?_eq_none (by simp)] at hn
      exact Array.getElem?_eq_none_iff.1 hn
     rw [List.getElem?_eq_none (by simpa using Nat.le_trans hs hi), List.getElem?_eq_none (by simpa using hi)]
 · rename_i hno
   exfalso
   split at h1
   · rename_i cs T f e
     exact hno _ _ _ e
   · rw [List.getElem?_map, List.getElem?_eq_getElem h0] at h1
     cases h1
theorem itoaV {P : Program} {q : Ren} {f : FuncId} {g : Nat} (L : LaysM.n171 P q) (hq : q.f 171 = f) (hf : ∃ fn, P.funcs[f]? = some fn ∧ (fn.name == "runtime.NumGoroutine") = false ∧ fn.body.isNone = false)
 (hg : P.globalNamed "internal/strconv.uint64pow10" = some g) (hm : (g, pow10C) ∈ qgc) (n : Int) (h0 : -9223372036854775808 ≤ n) (h1 : n ≤ 9223372036854775807) :
 CallsV P f [.dat (.i n)] (.dat (.str ⟨(Lib.itoa n).toArray⟩)) := by
 subst hq
 refine ⟨hf, fun w Im vs hs ha him => ?_⟩
 have h2 := ha 0 (.dat (.i n)) rfl
 have hv : vs = #[.int .i64 n] := by
  have hs' : vs.size = 1 := hs
  apply Array.ext
  · simpa using hs'
  · intro i hi hi'
    have : i = 0 := by simp at hi'; omega
    subst this
    cases h2 with
    | dat _ _ hd =>
     generalize hx : vs.getD 0 undef = x at hd
     cases hd
     simpa [Array.getD, hs'] using hx
 subst hv
 refine (Any.strconv_Itoa L n h0 h1 w (tab_is him.tab hg hm (by simp [Lib.pow10Tab_length]))).mono ?_
 rintro e w' ⟨rfl, k, os, rfl⟩
 refine ⟨_, _, [], fun _ => none, fun _ _ => False, rfl, ⟨rfl, rfl⟩, .dat _ _ (.str _), ⟨fun i b hi => (by simp at hi), fun i j r s x hi => absurd rfl hi, fun i r hi => absurd rfl hi, fun i r x hi => absurd rfl hi, fun i r x o hi => absurd rfl hi, fun b o h => h.elim, fun i b r o hi => (by simp at hi)⟩, ?_⟩
 refine ⟨fun i r x hi => absurd rfl hi, fun b o h => h.elim, fun b o h => h.elim, fun b o h => h.elim, fun b hb _ => ?_, ?_, rfl, rfl, rfl, fun i p hp => (by cases hp)⟩
 · show (w.heap ++ os)[b]? = w.heap[b]?
   exact Array.getElem?_append_left hb
 · show w.heap.size ≤ (w.heap ++ os).size
   simp
theorem tabH_all {P : Program} {W : World} {name : String} {k : IntKind} {zs : List Int} {g : Nat} (hT : Lib.TabIs P W name k zs) (hg : P.globalNamed name = some g) (ht : qgc = [(g, zs.map (Value.int k))])
 (he : ∀ g ∈ qme, ∃ v, hcell W.heap g 0 = some v ∧ (v = .nilIface ∨ ∃ t x, v = .iface t x)) (hn : ∀ g ∈ qlq, ∃ m, hcell W.heap g 0 = some (.int .i64 m)) : TabH W.heap fun b _ => b < W.heap.size := by
 unfold Lib.TabIs World.var? at hT
 rw [hg] at hT
 simp only [Option.bind_some] at hT
 split at hT
 · rename_i cs T f e
   have hlt : g < W.heap.size := (Array.getElem?_eq_some_iff.1 e).1
   refine ⟨fun t hm i hi => ?_, fun g hm => ?_, fun g hm => ?_⟩
   · rw [ht] at hm
     obtain rfl := List.mem_singleton.1 hm
     refine ⟨hlt, ?_⟩
     simp only [hcell, e]
     rw [Option.some.inj hT]
     simp
   · obtain ⟨v, h1, h2⟩ := he g hm
     exact ⟨qid h1, v, h1, h2⟩
   · obtain ⟨m, h1⟩ := hn g hm
     exact ⟨qid h1, m, h1⟩
 · cases hT
theorem tabH_one {P : Program} {W : World} {name : String} {k : IntKind} {zs : List Int} {g : Nat} (hT : Lib.TabIs P W name k zs) (hg : P.globalNamed name = some g) (ht : qgc = [(g, zs.map (Value.int k))]) (he : qme = []) (hn : qlq = []) : TabH W.heap fun b _ => b < W.heap.size :=
 tabH_all hT hg ht (fun g h => by rw [he] at h; cases h) (fun g h => by rw [hn] at h; cases h)
end Vg

namespace Vg
open Go Go.Proofs Go.Shelf Go.RowKit
def joinL (l : List ByteArray) (b : ByteArray) : ByteArray := ⟨(Lib.join (l.map (·.data.toList)) b.data.toList).toArray⟩
theorem joinV {P : Program} {q : Ren} {f : FuncId} (L : Lays.n156 P q) (X : Builder.Extra P q) (hq : q.f 156 = f) (hf : ∃ fn, P.funcs[f]? = some fn ∧ (fn.name == "runtime.NumGoroutine") = false ∧ fn.body.isNone = false)
 (l : List ByteArray) (b : ByteArray) (h1 : l.length ≤ 140737488355328) (h2 : (Lib.join (l.map (·.data.toList)) b.data.toList).length ≤ 140737488355328) :
 CallsV P f [.dat (.seq .strs l), .dat (.str b)] (.dat (.str (joinL l b))) := by
 subst hq
 refine ⟨hf, fun w Im vs hz ha him => ?_⟩
 have a0 := ha 0 (.dat (.seq .strs l)) rfl
 have a1 := ha 1 (.dat (.str b)) rfl
 have hz' : vs.size = 2 := hz
 have fin : ∀ (e : Ending) (w' : World), e = .returned (.string (joinL l b)) → Below w.heap.size w w' → ∃ v res B' ρ' Im', e = .returned v ∧ (res = AV.dat (.str (joinL l b)) ∧ B' = []) ∧ AVR ρ' w'.heap Im' res v ∧ Env (fun j => B'[j]?) ρ' Im' w'.heap ∧ Ext w .nil (im0Of Im (AV.dat (.str (joinL l b))).flat) (fun j => B'[j]?) ρ' Im' w' := by
  rintro e w' rfl hb
  refine ⟨_, _, [], fun _ => none, fun _ _ => False, rfl, ⟨rfl, rfl⟩, .dat _ _ (.str _), ⟨fun i b hi => (by simp at hi), fun i j r s x hi => absurd rfl hi, fun i r hi => absurd rfl hi, fun i r x hi => absurd rfl hi, fun i r x o hi => absurd rfl hi, fun b o h => h.elim, fun i b r o hi => (by simp at hi)⟩, ?_⟩
  refine ⟨fun i r x hi => absurd rfl hi, fun b o h => h.elim, fun b o h => h.elim, fun b o h => h.elim, fun c hc _ => ?_, ?_, ?_, ?_, ?_, fun i p hp => (by cases hp)⟩
  · exact hb.block c hc
  · exact hb.size
  · exact hb.os
  · exact hb.tape
  · exact hb.output
 generalize hx : vs.getD 0 undef = x at a0
 generalize hy : vs.getD 1 undef = y at a1
 have hv : vs = #[x, y] := by
  apply Array.ext
  · simpa using hz'
  · intro i hi hi'
    have : i = 0 ∨ i = 1 := by simp at hi'; omega
    rcases this with rfl | rfl
    · simpa [Array.getD, hz'] using hx
    · simpa [Array.getD, hz'] using hy
 subst hv
 cases a1 with
 | dat _ _ hd =>
  cases hd
  cases a0 with
  | dat _ _ hd =>
   cases hd with
   | empty _ _ hl a cap =>
    obtain rfl := List.length_eq_zero_iff.1 hl
    refine (Any.strings_Join_none L X a cap b w).mono fun e w' ⟨he, hw⟩ => fin e w' ?_ (hw ▸ Below.refl _ _)
    rw [he]; rfl
   | seq _ _ bk o cap cf hcap hmax him' hc hr =>
    by_cases h0 : l.length = 0
    · obtain rfl := List.length_eq_zero_iff.1 h0
      refine (Any.strings_Join_none L X _ cap b w).mono fun e w' ⟨he, hw⟩ => fin e w' ?_ (hw ▸ Below.refl _ _)
      rw [he]; rfl
    · refine (Any.strings_Join L X bk o cap l b w (fun j x hj => ?_) ?_ h1 hcap h2).mono fun e w' ⟨he, hw⟩ => fin e w' he hw
      · have hj' : j < l.length := (List.getElem?_eq_some_iff.1 hj).1
        have q := hc j 0 hj' (by decide)
        have r := hr j 0 hj' (by decide)
        have e1 : qa5 .strs l j 0 = .str x := by
         unfold qa5
         rw [show l.getD j K.strs.dflt = x by rw [List.getD_eq_getElem?_getD, hj]; rfl]; rfl
        rw [e1] at r
        rw [qeh]
        have e2 : o + j * K.strs.sz + 0 = o + j := by show o + j * 1 + 0 = o + j; omega
        rw [e2] at q
        rw [q]
        generalize cf j 0 = y at r
        cases r; rfl
      · have q := hc 0 0 omG (by decide)
        exact qid q
end Vg
