/- Trees: rows whose elements' own slices lie in memory of their own: taking, writing. No condition. -/
import Derived.Test.YtlopkgjiccppfaaDoorSound10
namespace Vg
open Go

section
variable {P : Program} {τ : Tys} {Im Im' : Nat → Nat → Prop} {ρ ρ' : Rho} {h h' : Array Obj} {w w' : World}
variable {w0 : World} {G : GP} {Im0 : Nat → Nat → Prop} {S : AState} {a : Act} {n : Nat} {tm : Nat → AV} {blk : Nat → Option Blk}

/-- the places are as they were but for what lies below them -/
structure RefP (ρ ρ' : Rho) : Prop where
  none : ∀ i, ρ i = none → ρ' i = none
  some : ∀ i r, ρ i = some r → ∃ fp, ρ' i = some { r with fp := fp }

theorem AVR.refp (hρ : RefP ρ ρ') {v : AV} {u : Value} (hr : AVR ρ h Im v u) : AVR ρ' h Im v u := by
  induction hr with
  | any v => exact .any v
  | cell v hv => exact .cell v hv
  | dat d v hd => exact .dat d v hd
  | nils => exact .nils
  | row i r hi => obtain ⟨fp, e⟩ := hρ.some i r hi; exact .row i { r with fp := fp } e
  | rowN i hi => exact .rowN i (hρ.none i hi)
  | ptr i off r hi => obtain ⟨fp, e⟩ := hρ.some i r hi; exact .ptr i off { r with fp := fp } e
  | eptr κ x j b o cf him hc hr => exact .eptr κ x j b o cf him hc hr
  | rptr i k j sz r hi => obtain ⟨fp, e⟩ := hρ.some i r hi; exact .rptr i k j sz { r with fp := fp } e
  | agg l cs cf hl hcf _ ih => exact .agg l cs cf hl hcf ih
  | tup l cs cf hl hcf _ ih => exact .tup l cs cf hl hcf ih
  | fn f l cs cf hl hcf _ ih => exact .fn f l cs cf hl hcf ih

theorem BlkR.refp {i : Nat} {b : Blk} (hρ : RefP ρ ρ') (hi : ρ' i = ρ i) (hB : BlkR ρ h Im i b) : BlkR ρ' h Im i b := by
  cases b with
  | box cells =>
    obtain ⟨r, cs, T, hr, hh, hsz, hcs⟩ := hB
    exact ⟨r, cs, T, hi.trans hr, hh, hsz, fun j x hx => let ⟨c, h1, h2⟩ := hcs j x hx; ⟨c, h1, h2.refp hρ⟩⟩
  | row T κ l sh => simp only [BlkR] at hB ⊢; rw [hi]; exact hB
  | tree T κ l => simp only [BlkR] at hB ⊢; rw [hi]; exact hB

/-- memory that no block of the state's names, and that is not for good -/
structure Free (w0 : World) (G : GP) (blk : Nat → Option Blk) (ρ : Rho) (Im : Nat → Nat → Prop) (w : World) (x : Nat) : Prop where
  lt : x < w.heap.size
  im : ∀ o, ¬ Im x o
  own : G x ∨ w0.heap.size ≤ x
  far : ∀ j s, blk j ≠ none → ρ j = some s → ¬ s.has x

/-- a tree is written: the memory below it may become more -/
theorem Rel.writeT {i : Nat} {r : RI} {fp : Nat → Prop} {b b' : Blk} (hR : Rel w0 G Im0 ⟨n, tm, blk⟩ ρ Im a w) (hi : blk i = some b) (hr : ρ i = some r) (hlt : i < 900000)
    (hk : ∀ k, k ≠ r.b → w'.heap[k]? = w.heap[k]?) (hg : w'.heap.size = w.heap.size) (ho : w'.os = w.os) (htp : w'.tape = w.tape) (hout : w'.output = w.output)
    (hp0 : b.pinned = 0) (hp : b'.pinned = 0) (hfp : ∀ x, fp x → r.fp x ∨ Free w0 G blk ρ Im w x)
    (hB : BlkR (updR ρ i (some { r with fp := fp })) w'.heap Im i b') : Rel w0 G Im0 ⟨n, tm, updB blk i (some b')⟩ (updR ρ i (some { r with fp := fp })) Im a w' := by
  have hiN : blk i ≠ none := by rw [hi]; exact fun h => by cases h
  have hown := hR.ext.own i r r.b hiN hr (.inl rfl)
  have hImb : ∀ o, ¬ Im r.b o := fun o h1 => by
    have := (hR.env.imOwn i b r o hi hr).1 h1
    rw [hp0] at this; omega
  have hc : ∀ b o, Im b o → hcell w'.heap b o = hcell w.heap b o := fun b o h1 => hcell_of_block (hk b fun e => hImb o (e ▸ h1)) o
  have href : RefP ρ (updR ρ i (some { r with fp := fp })) := ⟨fun j hj => by
    by_cases e : j = i
    · subst e; rw [hr] at hj; cases hj
    · rw [updR_ne _ e]; exact hj, fun j s hj => by
    by_cases e : j = i
    · subst e; rw [hr] at hj; cases hj; exact ⟨fp, updR_same _ _ _⟩
    · exact ⟨s.fp, by rw [updR_ne _ e]; exact hj⟩⟩
  have nn : ∀ {j}, updB blk i (some b') j ≠ none → blk j ≠ none := fun {j} hj e => by
    by_cases hne : j = i
    · subst hne; exact hiN e
    · rw [updB_ne _ hne] at hj; exact hj e
  -- the old place of a block, and what is below it
  have old : ∀ {j s x}, updR ρ i (some { r with fp := fp }) j = some s → s.has x → blk j ≠ none → (∃ s', ρ j = some s' ∧ s'.has x) ∨ (j = i ∧ Free w0 G blk ρ Im w x) := fun {j s x} hs hx hj => by
    by_cases e : j = i
    · subst e
      rw [updR_same] at hs; cases hs
      rcases hx with hx | hx
      · exact .inl ⟨r, hr, .inl hx⟩
      · rcases hfp x hx with h1 | h1
        · exact .inl ⟨r, hr, .inr h1⟩
        · exact .inr ⟨rfl, h1⟩
    · rw [updR_ne _ e] at hs; exact .inl ⟨s, hs, hx⟩
  refine ⟨hR.defers, hR.size, fun t => ((hR.tm t).mono hc (fun _ _ x => x)).refp href, ⟨fun j c hj => ?_, fun j k s u x hj hk' hs hu hx hy => ?_, fun j s hj hs => ?_, fun j s x hj hs hx => ?_, fun j s x o hj hs hx h1 => ?_, fun c o h1 => by rw [hg]; exact hR.env.imlt c o h1, fun j c s o hj hs => ?_⟩,
    ⟨fun j s x hj hs hx => ?_, hR.ext.im0, hR.ext.imNew, fun b o h1 => by rw [hc b o (hR.ext.im0 b o h1)]; exact hR.ext.keep b o h1, fun c hc' hG => ?_, by rw [hg]; exact hR.ext.grow, ho.trans hR.ext.os, htp.trans hR.ext.tape, hout.trans hR.ext.output, fun j p hp' hj => ?_⟩⟩
  · change updB blk i (some b') j = some c at hj
    by_cases e : j = i
    · subst e; rw [updB_same] at hj; cases hj; exact hB
    · rw [updB_ne _ e] at hj
      have hne : ∀ {s x}, ρ j = some s → s.has x → x ≠ r.b := fun {s x} hs hx e' => e (hR.env.inj j i s r x (by change blk j ≠ none; simp [hj]) hiN hs hr hx (.inl e'))
      exact ((hR.env.bl j c hj).mono (fun s x hs hx => hk _ (hne hs hx)) hc (fun _ _ x => x)).refp href (updR_ne _ e)
  · rcases old hs hx (nn hj) with ⟨s', h1, h2⟩ | ⟨rfl, h1⟩
    · rcases old hu hy (nn hk') with ⟨u', h3, h4⟩ | ⟨rfl, h3⟩
      · exact hR.env.inj j k s' u' x (nn hj) (nn hk') h1 h3 h2 h4
      · exact absurd h2 (h3.far j s' (nn hj) h1)
    · rcases old hu hy (nn hk') with ⟨u', h3, h4⟩ | ⟨rfl, h3⟩
      · exact absurd h4 (h1.far k u' (nn hk') h3)
      · rfl
  · by_cases e : j = i
    · subst e; rw [updR_same] at hs; cases hs
      intro hx
      rcases hfp _ hx with h1 | h1
      · exact hR.env.fpNe j r hiN hr h1
      · exact h1.far j r hiN hr (.inl rfl)
    · rw [updR_ne _ e] at hs; exact hR.env.fpNe j s (nn hj) hs
  · rw [hg]
    rcases old hs (.inr hx) (nn hj) with ⟨s', h1, h2⟩ | ⟨_, h1⟩
    · exact hR.env.lt (nn hj) h1 h2
    · exact h1.lt
  · by_cases e : j = i
    · subst e; rw [updR_same] at hs; cases hs
      rcases hfp _ hx with h2 | h2
      · exact hR.env.fpIm j r x o hiN hr h2 h1
      · exact h2.im o h1
    · rw [updR_ne _ e] at hs; exact hR.env.fpIm j s x o (nn hj) hs hx h1
  · change updB blk i (some b') j = some c at hj
    by_cases e : j = i
    · subst e; rw [updB_same] at hj; cases hj
      rw [updR_same] at hs; cases hs
      rw [hp]
      exact ⟨fun h1 => absurd h1 (hImb o), fun h => by omega⟩
    · rw [updB_ne _ e] at hj; rw [updR_ne _ e] at hs; exact hR.env.imOwn j c s o hj hs
  · rcases old hs hx (nn hj) with ⟨s', h1, h2⟩ | ⟨_, h1⟩
    · exact hR.ext.own j s' x (nn hj) h1 h2
    · exact h1.own
  · have hne : c ≠ r.b := fun e => by
      subst e
      rcases hown with h2 | h2
      · exact hG h2
      · omega
    rw [hk c hne]; exact hR.ext.frame c hc' hG
  · have hne : j ≠ i := fun e => by subst e; rw [G.lt j hlt] at hp'; cases hp'
    rw [updR_ne _ hne]; exact hR.ext.pin j p hp' (nn hj)

/-! ### taking memory out of the state -/
theorem Free.mono {blk' : Nat → Option Blk} {x : Nat} (hf : Free w0 G blk ρ Im w x) (hb : ∀ j, blk' j ≠ none → blk j ≠ none) : Free w0 G blk' ρ Im w x :=
  ⟨hf.lt, hf.im, hf.own, fun j s hj => hf.far j s (hb j hj)⟩

theorem kill_sub {i j : Nat} (h : killB blk i j ≠ none) : blk j ≠ none ∧ j ≠ i := by
  have hne : j ≠ i := fun e => by subst e; exact h (killB_same _ _)
  rw [killB_ne hne] at h
  exact ⟨fun e => h (by rw [e]; rfl), hne⟩

theorem K.flat_cell {κ : K} (hf : κ.flat = true) (l : List κ.T) (k j : Nat) : (cellOf κ l k j).flat = true := by
  unfold cellOf
  cases κ <;> first | cases hf | skip
  all_goals (
    generalize List.getD l k _ = y
    match j with
    | 0 => rfl
    | 1 => rfl
    | 2 => rfl
    | 3 => rfl
    | j + 4 => rfl)
theorem RepD.toT {d : Dat} {v : Value} {F : Nat → Prop} (hf : d.flat = true) (hr : RepD h Im d v) : RepT h d v F := by
  cases hr with
  | int k n => exact .int k n F
  | bool b => exact .bool b F
  | str s => exact .str s F
  | errN => cases hf
  | errS => cases hf
  | empty => cases hf
  | seq => cases hf

theorem takeD_ok {z : Dat} {v : AV} {u : Value} {K : AState → Dat → Prop} (h : takeD S z v K) (hR : Rel w0 G Im0 S ρ Im a w) (hv : AVR ρ w.heap Im v u) :
    ∃ S' d F, K S' d ∧ Rel w0 G Im0 S' ρ Im a w ∧ RepT w.heap d u F ∧ (∀ x, F x → Free w0 G S'.blk ρ Im w x) ∧ (∀ x, F x → ∃ i r, S.blk i ≠ none ∧ S'.blk i = none ∧ ρ i = some r ∧ r.has x) ∧ ∀ j, S'.blk j ≠ none → S.blk j ≠ none := by
  unfold takeD at h
  split at h
  · rename_i d
    have hd : RepD w.heap Im d u := by cases hv with | dat _ _ hd => exact hd
    split at h
    · exact h.elim
    · exact ⟨S, _, fun _ => False, h, hR, hd.toT rfl, fun _ x => x.elim, fun _ x => x.elim, fun _ x => x⟩
    · exact ⟨S, _, fun _ => False, h, hR, hd.toT rfl, fun _ x => x.elim, fun _ x => x.elim, fun _ x => x⟩
    · exact ⟨S, _, fun _ => False, h, hR, hd.toT rfl, fun _ x => x.elim, fun _ x => x.elim, fun _ x => x⟩
    · exact h.elim
  · split at h
    · obtain rfl := nils_val hv
      exact ⟨S, _, fun _ => False, h, hR, .nil _ _ rfl _, fun _ x => x.elim, fun _ x => x.elim, fun _ x => x⟩
    · exact h.elim
  · rename_i i
    obtain ⟨n, tm, blk⟩ := S
    simp only at h
    have hkill : Rel w0 G Im0 (AState.kill ⟨n, tm, blk⟩ i) ρ Im a w := hR.kill (fun _ _ => rfl)
    have free : ∀ {b : Blk} {r : RI}, blk i = some b → b.pinned = 0 → ρ i = some r → ∀ x, r.has x → Free w0 G (killB blk i) ρ Im w x := fun {b r} hB hpn hr x hx => by
      have hiN : blk i ≠ none := by rw [hB]; exact fun h => by cases h
      refine ⟨hR.env.lt hiN hr hx, fun o h1 => ?_, hR.ext.own i r x hiN hr hx, fun j s hj hs hy => ?_⟩
      · rcases hx with rfl | hx
        · have := (hR.env.imOwn i b r o hB hr).1 h1
          rw [hpn] at this; omega
        · exact hR.env.fpIm i r x o hiN hr hx h1
      · have := kill_sub hj
        exact this.2 (hR.env.inj j i s r x this.1 hiN hs hr hy hx)
    split at h
    · rename_i T κ l hB
      cases hf : κ.flat with
      | false => simp [hf] at h
      | true =>
        simp only [hf] at h
        have hb := hR.env.bl i _ hB
        cases hv with
        | row _ r hi =>
          refine ⟨_, _, r.has, h, hkill, ?_, free hB rfl hi, fun x hx => ⟨i, r, by simp [hB], killB_same _ _, hi, hx⟩, fun j hj => (kill_sub hj).1⟩
          simp only [BlkR, hi] at hb
          obtain ⟨h1, h2, h3, cs, T0, hh, hsz, hcs⟩ := hb
          rw [h1]
          refine .seq κ l r.b r.cap T0 cs (fun k j => cs.getD (k * κ.sz + j) undef) (fun _ _ _ => False) _ (by omega) h3 (.inl rfl) hh hsz (fun _ _ _ _ _ x => x.elim) (fun _ _ _ _ _ _ _ _ _ x => x.elim) (fun k j hk hj => ?_) (fun k j hk hj => ?_)
          · obtain ⟨c, hc1, _⟩ := hcs k j hk hj
            simp [hc1]
          · obtain ⟨c, hc1, hc2⟩ := hcs k j hk hj
            simp only [Array.getD_eq_getD_getElem?, hc1, Option.getD_some]
            exact hc2.toT (Vg.K.flat_cell hf l k j)
        | rowN _ hi =>
          simp only [BlkR, hi] at hb
          exact ⟨_, _, fun _ => False, h, hkill, .nil κ l hb _, fun _ x => x.elim, fun _ x => x.elim, fun j hj => (kill_sub hj).1⟩
    · rename_i T κ l hB
      have hb := hR.env.bl i _ hB
      cases hv with
      | row _ r hi =>
        refine ⟨_, _, r.has, h, hkill, ?_, free hB rfl hi, fun x hx => ⟨i, r, by simp [hB], killB_same _ _, hi, hx⟩, fun j hj => (kill_sub hj).1⟩
        simp only [BlkR, hi] at hb
        obtain ⟨h1, h2, h3, cs, Fk, T0, hh, hsz, hF, hD, hcs⟩ := hb
        rw [h1]
        refine .seq κ l r.b r.cap T0 cs (fun k j => cs.getD (k * κ.sz + j) undef) Fk _ (by omega) h3 (.inl rfl) hh hsz (fun k j x hk hj hx => ⟨.inr (hF k j x hk hj hx).1, (hF k j x hk hj hx).2⟩) hD (fun k j hk hj => ?_) (fun k j hk hj => ?_)
        · obtain ⟨c, hc1, _⟩ := hcs k j hk hj
          simp [hc1]
        · obtain ⟨c, hc1, hc2⟩ := hcs k j hk hj
          simp only [Array.getD_eq_getD_getElem?, hc1, Option.getD_some]
          exact hc2
      | rowN _ hi =>
        simp only [BlkR, hi] at hb
        exact ⟨_, _, fun _ => False, h, hkill, .nil κ l hb _, fun _ x => x.elim, fun _ x => x.elim, fun j hj => (kill_sub hj).1⟩
    · exact h.elim
  · exact h.elim

theorem takeDs_ok : ∀ (zs : List Dat) (vs : List AV) (S : AState) (cf : Nat → Value) (K : AState → List Dat → Prop), takeDs zs vs S K → Rel w0 G Im0 S ρ Im a w →
    (∀ j v, vs[j]? = some v → AVR ρ w.heap Im v (cf j)) →
    ∃ (S' : AState) (ds : List Dat) (Fs : Nat → Nat → Prop), K S' ds ∧ Rel w0 G Im0 S' ρ Im a w ∧ ds.length = vs.length ∧ vs.length = zs.length ∧ (∀ j d, ds[j]? = some d → RepT w.heap d (cf j) (Fs j)) ∧
      (∀ j x, Fs j x → Free w0 G S'.blk ρ Im w x) ∧ (∀ j j' x, Fs j x → Fs j' x → j = j') ∧ (∀ j x, Fs j x → ∃ i r, S.blk i ≠ none ∧ S'.blk i = none ∧ ρ i = some r ∧ r.has x) ∧ ∀ j, S'.blk j ≠ none → S.blk j ≠ none
  | [], [], S, cf, K, h, hR, _ => ⟨S, [], fun _ _ => False, h, hR, rfl, rfl, by simp, fun _ _ x => x.elim, fun _ _ _ x => x.elim, fun _ _ x => x.elim, fun _ x => x⟩
  | z :: zs, v :: vs, S, cf, K, h, hR, hv => by
    simp only [takeDs] at h
    obtain ⟨S1, d, F, h1, hR1, hd, hF, hF2, hsub⟩ := takeD_ok h hR (hv 0 v rfl)
    -- values that name what was taken: they are read as before
    obtain ⟨S2, ds, Fs, h2, hR2, hl, hl', hds, hFs, hDs, hFs2, hsub2⟩ := takeDs_ok zs vs S1 (fun j => cf (j + 1)) _ h1 hR1 (fun j x hx => hv (j + 1) x (by simpa using hx))
    have far : ∀ j x, F x → ¬ Fs j x := fun j x hx hy => by
      obtain ⟨i, r, e1, e2, e3, e4⟩ := hFs2 j x hy
      exact (hF x hx).far i r e1 e3 e4
    refine ⟨S2, d :: ds, fun j => match j with | 0 => F | j + 1 => Fs j, h2, hR2, by simp [hl], by simp [hl'], fun j x hx => ?_, fun j x hx => ?_, fun j j' x hx hy => ?_, fun j x hx => ?_, fun j hj => hsub j (hsub2 j hj)⟩
    · cases j with
      | zero => simp at hx; subst hx; exact hd
      | succ j => simp at hx; exact hds j x hx
    · cases j with
      | zero => exact (hF x hx).mono hsub2
      | succ j => exact hFs j x hx
    · cases j with
      | zero => cases j' with
        | zero => rfl
        | succ j' => exact absurd hy (far j' x hx)
      | succ j => cases j' with
        | zero => exact absurd hx (far j x hy)
        | succ j' => rw [hDs j j' x hx hy]
    · cases j with
      | zero =>
        obtain ⟨i, r, e1, e2, e3, e4⟩ := hF2 x hx
        refine ⟨i, r, e1, ?_, e3, e4⟩
        cases e5 : S2.blk i with
        | none => rfl
        | some b => exact absurd e2 (hsub2 i (by rw [e5]; exact fun h => by cases h))
      | succ j =>
        obtain ⟨i, r, e1, e2, e3, e4⟩ := hFs2 j x hx
        exact ⟨i, r, hsub i e1, e2, e3, e4⟩
  | [], _ :: _, _, _, _, h, _, _ => h.elim
  | _ :: _, [], _, _, _, h, _, _ => h.elim
end
end Vg
