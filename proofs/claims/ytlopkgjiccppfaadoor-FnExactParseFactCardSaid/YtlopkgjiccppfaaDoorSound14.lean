/- Calls that hand back memory of their own; a slice against nil; one operation; a list of operations. -/
import Derived.Test.YtlopkgjiccppfaaDoorTreeC
namespace Vg
open Go

section
variable {P : Program} {τ : Tys} {Im Im' : Nat → Nat → Prop} {ρ ρ' ρ2 : Rho} {h h' : Array Obj} {w w' : World}
variable {w0 : World} {G : GP} {Im0 : Nat → Nat → Prop} {S : AState} {a : Act} {n : Nat} {tm : Nat → AV} {blk : Nat → Option Blk}

theorem AVR.renC {k base : Nat} (hρ : ∀ j, j < k → ρ2 (base + j) = ρ j) {x : AV} {v : Value} (hr : AVR ρ h Im x v) : AVR ρ2 h Im (x.renC k base) v := by
  cases hr with
  | any v => exact .any v
  | cell v hv => exact .cell v hv
  | dat d v hd => exact .dat d v hd
  | nils => exact .nils
  | eptr κ x j b o cf him hc hr => exact .eptr κ x j b o cf him hc hr
  | row j r hi =>
    simp only [AV.renC]; split
    · rename_i hb; exact .row _ r (by rw [hρ j (blt_lt hb)]; exact hi)
    · exact .cell _ rfl
  | rowN j hi =>
    simp only [AV.renC]; split
    · rename_i hb; exact .rowN _ (by rw [hρ j (blt_lt hb)]; exact hi)
    · exact .cell _ rfl
  | ptr j off r hi =>
    simp only [AV.renC]; split
    · rename_i hb; exact .ptr _ off r (by rw [hρ j (blt_lt hb)]; exact hi)
    · exact .cell _ rfl
  | rptr j k' o sz r hi =>
    simp only [AV.renC]; split
    · rename_i hb; exact .rptr _ k' o sz r (by rw [hρ j (blt_lt hb)]; exact hi)
    · exact .cell _ rfl
  | agg => exact .any _
  | tup => exact .any _
  | fn => exact .any _

theorem renCs {k base : Nat} (hρ : ∀ j, j < k → ρ2 (base + j) = ρ j) {l : List AV} {cf : Nat → Value} (hr : ∀ j a, l[j]? = some a → AVR ρ h Im a (cf j)) :
    ∀ j a, (l.map (AV.renC k base))[j]? = some a → AVR ρ2 h Im a (cf j) := by
  intro j a ha
  rw [List.getElem?_map] at ha
  cases hl : l[j]? with
  | none => simp [hl] at ha
  | some b => simp [hl] at ha; subst ha; exact (hr j b hl).renC hρ

theorem AVR.renM {k base : Nat} (hρ : ∀ j, j < k → ρ2 (base + j) = ρ j) {x : AV} {v : Value} (hr : AVR ρ h Im x v) : AVR ρ2 h Im (x.renM k base) v := by
  cases hr with
  | agg l cs cf hl hcf hr => exact .agg _ cs cf (by simpa using hl) (by simpa using hcf) (renCs hρ hr)
  | fn f l cs cf hl hcf hr => exact .fn f _ cs cf (by simpa using hl) (by simpa using hcf) (renCs hρ hr)
  | tup l cs cf hl hcf hr => exact .any _
  | any v => exact AVR.renC hρ (.any v)
  | cell v hv => exact AVR.renC hρ (.cell v hv)
  | dat d v hd => exact AVR.renC hρ (.dat d v hd)
  | nils => exact AVR.renC hρ .nils
  | eptr κ x j b o cf him hc hr => exact AVR.renC hρ (.eptr κ x j b o cf him hc hr)
  | row j r hi => exact AVR.renC hρ (.row j r hi)
  | rowN j hi => exact AVR.renC hρ (.rowN j hi)
  | ptr j off r hi => exact AVR.renC hρ (.ptr j off r hi)
  | rptr j k' o sz r hi => exact AVR.renC hρ (.rptr j k' o sz r hi)

theorem AVR.ren {k base : Nat} (hρ : ∀ j, j < k → ρ2 (base + j) = ρ j) {x : AV} {v : Value} (hr : AVR ρ h Im x v) : AVR ρ2 h Im (x.ren k base) v := by
  cases hr with
  | tup l cs cf hl hcf hr =>
    refine .tup _ cs cf (by simpa using hl) (by simpa using hcf) (fun j a ha => ?_)
    rw [List.getElem?_map] at ha
    cases hl : l[j]? with
    | none => simp [hl] at ha
    | some b => simp [hl] at ha; subst ha; exact (hr j b hl).renM hρ
  | agg l cs cf hl hcf hr => exact (AVR.agg l cs cf hl hcf hr).renM hρ
  | fn f l cs cf hl hcf hr => exact (AVR.fn f l cs cf hl hcf hr).renM hρ
  | any v => exact AVR.renC hρ (.any v)
  | cell v hv => exact AVR.renC hρ (.cell v hv)
  | dat d v hd => exact AVR.renC hρ (.dat d v hd)
  | nils => exact AVR.renC hρ .nils
  | eptr κ x j b o cf him hc hr => exact AVR.renC hρ (.eptr κ x j b o cf him hc hr)
  | row j r hi => exact AVR.renC hρ (.row j r hi)
  | rowN j hi => exact AVR.renC hρ (.rowN j hi)
  | ptr j off r hi => exact AVR.renC hρ (.ptr j off r hi)
  | rptr j k' o sz r hi => exact AVR.renC hρ (.rptr j k' o sz r hi)

theorem BlkR.ren {k base j : Nat} {b : Blk} (hρ : ∀ j, j < k → ρ2 (base + j) = ρ j) (hj : j < k) (hB : BlkR ρ h Im j b) : BlkR ρ2 h Im (base + j) (b.ren k base) := by
  cases b with
  | box cells =>
    obtain ⟨r, cs, T, hr, hh, hsz, hcs⟩ := hB
    refine ⟨r, cs, T, (hρ j hj).trans hr, hh, by simpa using hsz, fun i x hx => ?_⟩
    rw [List.getElem?_map] at hx
    cases hl : cells[i]? with
    | none => simp [hl] at hx
    | some y =>
      simp [hl] at hx; subst hx
      obtain ⟨c, h1, h2⟩ := hcs i y hl
      exact ⟨c, h1, h2.renC hρ⟩
  | row T κ l sh =>
    simp only [BlkR, Blk.ren] at hB ⊢
    rw [hρ j hj]; exact hB
  | tree T κ l =>
    simp only [BlkR, Blk.ren] at hB ⊢
    rw [hρ j hj]; exact hB

theorem Blk.ren_pinned {k base : Nat} {b : Blk} : (b.ren k base).pinned = b.pinned := by cases b <;> rfl

theorem killN_ok : ∀ (k base : Nat) (S : AState) (ρ ρ2 : Rho), Rel w0 G Im0 S ρ Im a w → (∀ i, ¬ (base ≤ i ∧ i < base + k) → ρ2 i = ρ i) → Rel w0 G Im0 (killN k base S) ρ2 Im a w ∧
    ∀ i, base ≤ i → i < base + k → (killN k base S).blk i = none
  | 0, base, S, ρ, ρ2, hR, hρ => by
    have : ρ2 = ρ := funext fun i => hρ i (by omega)
    subst this
    exact ⟨hR, fun i h1 h2 => by omega⟩
  | k + 1, base, ⟨n, tm, blk⟩, ρ, ρ2, hR, hρ => by
    have h1 := hR.kill (i := base) (ρ' := updR ρ base (ρ2 base)) (fun j hj => updR_ne _ hj)
    obtain ⟨h2, h3⟩ := killN_ok k (base + 1) ⟨n, killT tm base, killB blk base⟩ (updR ρ base (ρ2 base)) ρ2 h1 (fun i hi => by
      by_cases e : i = base
      · subst e; rw [updR_same]
      · rw [updR_ne _ e]; exact hρ i (by omega))
    have keep : ∀ (k b : Nat) (S : AState) (i : Nat), S.blk i = none → (killN k b S).blk i = none := by
      intro k
      induction k with
      | zero => intro b S i h; exact h
      | succ k ih =>
        intro b ⟨n, tm, blk⟩ i h
        refine ih (b + 1) _ i ?_
        simp only [AState.kill]
        by_cases e : i = b
        · subst e; exact killB_same _ _
        · rw [killB_ne e]; simp only at h; rw [h]; rfl
    refine ⟨h2, fun i hi1 hi2 => ?_⟩
    by_cases e : i = base
    · subst e
      exact keep k (i + 1) _ i (killB_same _ _)
    · exact h3 i (by omega) (by omega)

/-- the new blocks of a call enter, one behind the other -/
theorem insN_ok {B' : List Blk} {base lo : Nat} (hρ : ∀ j, j < B'.length → ρ2 (base + j) = ρ' j) (E' : Env (fun j => B'[j]?) ρ' Im w.heap) (hlo : w0.heap.size ≤ lo)
    (hnew : ∀ j r x, j < B'.length → ρ' j = some r → r.has x → lo ≤ x) (hle : base + B'.length ≤ 900000) :
    ∀ (bs : List Blk) (j : Nat) (blk : Nat → Option Blk), (∀ i, bs[i]? = B'[j + i]?) → Rel w0 G Im0 ⟨n, tm, blk⟩ ρ2 Im a w →
      (∀ i, base + j ≤ i → i < base + B'.length → blk i = none) →
      (∀ i s x, blk i ≠ none → ρ2 i = some s → s.has x → (¬ (base ≤ i ∧ i < base + B'.length) → x < lo)) →
      Rel w0 G Im0 ⟨n, tm, insN bs B'.length base j blk⟩ ρ2 Im a w
  | [], _, blk, _, hR, _, _ => hR
  | b :: bs, j, blk, hbs, hR, hfree, hold => by
    have hb : B'[j]? = some b := by have := hbs 0; simpa using this.symm
    have hj : j < B'.length := (List.getElem?_eq_some_iff.1 hb).1
    have hR1 := hR.ins (t := base + j) (b := b.ren B'.length base) (hfree _ (Nat.le_refl _) (by omega)) ((E'.bl j b hb).ren hρ hj)
      (fun r o hr => by rw [Blk.ren_pinned]; rw [hρ j hj] at hr; exact E'.imOwn j b r o hb hr)
      (fun r hr => by
        rw [hρ j hj] at hr
        exact ⟨E'.fpNe j r (by simp [hb]) hr, fun x hx => ⟨E'.fpLt j r x (by simp [hb]) hr hx, fun o => E'.fpIm j r x o (by simp [hb]) hr hx⟩⟩)
      (fun r i s x hr hi hs hx hy => by
        rw [hρ j hj] at hr
        by_cases hin : base ≤ i ∧ i < base + B'.length
        · have hi' : i = base + (i - base) := by omega
          have hlt : i - base < B'.length := by omega
          rw [hi', hρ _ hlt] at hs
          have := E'.inj (i - base) j s r x (by simp [hlt]) (by simp [hb]) hs hr hx hy
          have hne : blk i = none := hfree i (by omega) hin.2
          exact hi hne
        · have h1 := hold i s x hi hs hx hin
          have h2 := hnew j r x hj hr hy
          omega)
      (fun r x hr hx => by rw [hρ j hj] at hr; have := hnew j r x hj hr hx; exact .inr (by omega))
      (fun p hp => by rw [G.lt (base + j) (by omega)] at hp; cases hp)
    refine insN_ok hρ E' hlo hnew hle bs (j + 1) _ (fun i => by have := hbs (i + 1); simpa [Nat.add_assoc, Nat.add_comm 1 i] using this) hR1 (fun i h1 h2 => ?_) (fun i s x hi hs hx hin => ?_)
    · rw [updB_ne _ (by omega)]; exact hfree i (by omega) h2
    · have hne : i ≠ base + j := by omega
      rw [updB_ne _ hne] at hi
      exact hold i s x hi hs hx hin

theorem fcall_sound [hT : Nonempty (TabH w0.heap Im0)] (hR : Rel w0 G Im0 S ρ Im a w) {o : Oper} {f : Operand} {args : Array Operand} {ts : Array Nat} {g : Nat} {K : AState → Prop}
    (ho : o.op = .call { callee := .value f, args := args, argTypes := ts }) (hf : ev S f = .fn g [])
    (h : fcall P τ S o.dst g ts.toList (args.toList.map (ev S)) K) {next : Act → World → Prop} {Q : Exit → Act → World → Prop}
    (hn : ∀ S' a' w', K S' → RelE w0 G Im0 S' a' w' → next a' w') : o.wp P a w next Q := by
  unfold fcall at h
  cases hA : argsP τ S.blk ts.toList (args.toList.map (ev S)) with
  | none => simp [hA] at h
  | some x =>
    obtain ⟨as, brw⟩ := x
    simp only [hA] at h
    obtain ⟨fr, R, hX, hb, hK⟩ := h
    obtain ⟨⟨fn, h1, h2, h3⟩, hcall⟩ := hX
    have hfv : a.eval f = .func (.func g) #[] #[] := by
      have := ev_rel hR f
      rw [hf] at this
      generalize a.eval f = u at this ⊢
      cases this with
      | fn _ _ cs cf hl _ _ =>
        have : cs = #[] := by apply Array.eq_empty_of_size_eq_zero; simpa using hl
        rw [this]
    unfold Oper.wp
    rw [run_call ho hfv h1 h2 h3]
    simp only [Oper.upon]
    obtain ⟨hlen, hargs⟩ := argsP_sound hR.env ts.toList _ as brw (fun j => (args.map a.eval).getD j undef) hA (fun j x hx => by
      rw [List.getElem?_map] at hx
      cases hj : args.toList[j]? with
      | none => simp [hj] at hx
      | some y =>
        simp [hj] at hx; subst hx
        have : args[j]? = some y := by simpa using hj
        simp [this]
        exact ev_rel hR y)
    refine (hcall w (lent S.blk ρ Im brw) (args.map a.eval) (by simp [hlen]) hargs ⟨fun b o hI => lent_lt hR.env brw hI, hR.tab.ext (fun b o hI => lent_of _ _ brw hI) (fun _ _ _ => rfl)⟩).mono ?_
    rintro e w' ⟨v, res, B', ρ', Im', rfl, hRes, hv, E', X'⟩
    simp only
    have hfr : ∀ b, b < w.heap.size → w'.heap[b]? = w.heap[b]? := fun b hb => X'.frame b hb (fun h => h)
    have hnew0 : ∀ b o, Im' b o → Im b o ∨ (w.heap.size ≤ b ∧ b < w'.heap.size) := fun b o hI => by
      rcases X'.imNew b o hI with h4 | h4 | h4
      · cases fr with
        | true => exact h4.elim
        | false =>
          cases brw with
          | true => simp at hb
          | false => exact .inl h4
      · exact h4.elim
      · exact .inr ⟨h4, E'.imlt b o hI⟩
    have hR1 := hR.after (Im2 := fun b o => Im b o ∨ Im' b o) hfr X'.grow X'.os X'.tape X'.output (fun _ _ x => .inl x) (fun b o x => x.elim .inl (hnew0 b o))
    have hK' := hK res B' hRes
    generalize baseOf o.dst = base at hK'
    simp only [AState.back, force_eq] at hK'
    cases hle : Nat.ble (base + B'.length) 900000 with
    | false => simp only [hle] at hK'
    | true =>
    simp only [hle] at hK'
    have hle := Nat.le_of_ble_eq_true hle
    obtain ⟨ρ2, hρ2⟩ : ∃ ρ2 : Rho, ρ2 = fun i => if base ≤ i ∧ i < base + B'.length then ρ' (i - base) else ρ i := ⟨_, rfl⟩
    have hρa : ∀ j, j < B'.length → ρ2 (base + j) = ρ' j := fun j hj => by subst hρ2; simp [hj]
    have hρb : ∀ i, ¬ (base ≤ i ∧ i < base + B'.length) → ρ2 i = ρ i := fun i hi => by subst hρ2; simp [hi]
    obtain ⟨hR2, hfree⟩ := killN_ok B'.length base S ρ ρ2 hR1 hρb
    have hown : ∀ i r x, S.blk i ≠ none → ρ i = some r → r.has x → x < w.heap.size := fun i r x hi hr hx => hR.env.lt hi hr hx
    have hnonew : ∀ j r x, j < B'.length → ρ' j = some r → r.has x → w.heap.size ≤ x := fun j r x hj hr hx => (X'.own j r x (by simp [hj]) hr hx).elim (fun h => h.elim) id
    have inB : ∀ {i : Nat}, B'[i]? ≠ none → i < B'.length := fun {i} h => by
      by_cases hl : i < B'.length
      · exact hl
      · exact absurd (List.getElem?_eq_none (Nat.le_of_not_lt hl)) h
    have E2 : Env (fun j => B'[j]?) ρ' (fun b o => Im b o ∨ Im' b o) w'.heap := by
      refine ⟨fun i b hi => (E'.bl i b hi).mono (fun _ _ _ _ => rfl) (fun _ _ _ => rfl) (fun _ _ x => .inr x), E'.inj, E'.fpNe, E'.fpLt, fun i r x o hi hr hx hI => ?_, fun b o x => ?_, fun i b r o hi hr => ?_⟩
      · rcases hI with hI | hI
        · have := hR.env.imlt _ _ hI
          have := hnonew i r x (inB hi) hr (.inr hx)
          omega
        · exact E'.fpIm i r x o hi hr hx hI
      · rcases x with x | x
        · have := hR.env.imlt b o x; have := X'.grow; omega
        · exact E'.imlt b o x
      · rw [← E'.imOwn i b r o hi hr]
        refine ⟨fun x => x.resolve_left (fun y => ?_), .inr⟩
        have := hR.env.imlt _ _ y
        have := hnonew i r r.b (inB (by rw [show B'[i]? = some b from hi]; simp)) hr (.inl rfl)
        omega
    -- blocks that stay are old ones
    have hstay : ∀ (k b : Nat) (S : AState) (i : Nat), (killN k b S).blk i ≠ none → S.blk i ≠ none := by
      intro k
      induction k with
      | zero => intro b S i h; exact h
      | succ k ih =>
        intro b ⟨n, tm, blk⟩ i h
        have := ih (b + 1) _ i h
        simp only [AState.kill] at this
        intro e
        apply this
        by_cases e' : i = b
        · subst e'; exact killB_same _ _
        · rw [killB_ne e']; simp only at e; rw [e]; rfl
    rcases hS : killN B'.length base S with ⟨n, tm, blk⟩
    rw [hS] at hK' hR2 hfree
    simp only at hK'
    have hR3 := insN_ok (lo := w.heap.size) hρa E2 hR.ext.grow hnonew hle B' 0 blk (fun i => by simp) hR2 (fun i h1 h2 => hfree i (by omega) h2) (fun i s x hi hs hx hin => by
      rw [hρb i hin] at hs
      exact hown i s x (hstay B'.length base S i (by rw [hS]; exact hi)) hs hx)
    obtain ⟨S', hK2, hS'⟩ := put_ok (w0 := w0) (G := G) (Im0 := Im0) hK'
    exact hn S' _ _ hK2 ⟨_, _, hS' hR3 ((hv.mono (h' := w'.heap) (Im' := fun b o => Im b o ∨ Im' b o) (fun _ _ _ => rfl) (fun _ _ x => .inr x)).ren hρa)⟩
end
end Vg
