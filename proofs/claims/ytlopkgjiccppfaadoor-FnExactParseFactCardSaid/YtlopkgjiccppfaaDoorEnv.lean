/- Steps of the memory: what an abstract state says stays true behind a new block, a write, a freeze. No condition. -/
import Derived.Test.YtlopkgjiccppfaaDoorRel
namespace Vg
open Go

def updB (B : Nat → Option Blk) (i : Nat) (b : Option Blk) : Nat → Option Blk := fun j => match Nat.beq j i with | true => b | false => B j
theorem updB_same (B : Nat → Option Blk) (i : Nat) (b : Option Blk) : updB B i b i = b := by simp [updB]
theorem updB_ne {B : Nat → Option Blk} {i j : Nat} (b : Option Blk) (hne : j ≠ i) : updB B i b j = B j := by
  have : Nat.beq j i = false := by cases hb : Nat.beq j i with | false => rfl | true => exact absurd (Nat.eq_of_beq_eq_true hb) hne
  simp [updB, this]
/-- (one match, so that a block behind many of them is read in one go) -/
def killB (B : Nat → Option Blk) (i : Nat) : Nat → Option Blk := fun j => match Nat.beq j i with
  | true => none
  | false => match B j with
    | none => none
    | some (.box cells) => some (.box (cells.map (AV.killC i)))
    | some (.row T κ l sh) => some (.row T κ l sh)
    | some (.tree T κ l) => some (.tree T κ l)
theorem killB_same (B : Nat → Option Blk) (i : Nat) : killB B i i = none := by simp [killB]
theorem killB_ne {B : Nat → Option Blk} {i j : Nat} (hne : j ≠ i) : killB B i j = (B j).map (Blk.kill i) := by
  have : Nat.beq j i = false := by cases hb : Nat.beq j i with | false => rfl | true => exact absurd (Nat.eq_of_beq_eq_true hb) hne
  simp only [killB, this]
  cases B j with
  | none => rfl
  | some b => cases b <;> rfl
def updR (ρ : Rho) (i : Nat) (r : Option RI) : Rho := fun j => if j = i then r else ρ j
theorem updR_same (ρ : Rho) (i : Nat) (r : Option RI) : updR ρ i r i = r := by simp [updR]
theorem updR_ne {ρ : Rho} {i j : Nat} (r : Option RI) (hne : j ≠ i) : updR ρ i r j = ρ j := by simp [updR, hne]

def AState.kill (S : AState) (i : Nat) : AState := match S with | ⟨n, tm, blk⟩ => ⟨n, fun t => (tm t).kill i, killB blk i⟩

section
variable {B : Nat → Option Blk} {ρ ρ' : Rho} {Im Im' : Nat → Nat → Prop} {h h' : Array Obj} {i : Nat} {blk blk' : Blk}

theorem BlkR.mono (hb : ∀ r x, ρ i = some r → r.has x → h'[x]? = h[x]?) (hc : ∀ b o, Im b o → hcell h' b o = hcell h b o) (hI : ∀ b o, Im b o → Im' b o)
    (hB : BlkR ρ h Im i blk) : BlkR ρ h' Im' i blk := by
  cases blk with
  | box cells =>
    obtain ⟨r, cs, T, hr, hh, hsz, hcs⟩ := hB
    exact ⟨r, cs, T, hr, (hb r _ hr (.inl rfl)).trans hh, hsz, fun j a ha => let ⟨c, hc1, hc2⟩ := hcs j a ha; ⟨c, hc1, hc2.mono hc hI⟩⟩
  | row T κ l sh =>
    simp only [BlkR] at hB ⊢
    cases hr : ρ i with
    | none => rw [hr] at hB; exact hB
    | some r =>
      rw [hr] at hB
      obtain ⟨h1, h2, h3, cs, T0, hh, hsz, hcs⟩ := hB
      exact ⟨h1, h2, h3, cs, T0, (hb r _ hr (.inl rfl)).trans hh, hsz, fun k j hk hj => let ⟨c, hc1, hc2⟩ := hcs k j hk hj; ⟨c, hc1, hc2.mono hc hI⟩⟩
  | tree T κ l =>
    simp only [BlkR] at hB ⊢
    cases hr : ρ i with
    | none => rw [hr] at hB; exact hB
    | some r =>
      rw [hr] at hB
      obtain ⟨h1, h2, h3, cs, Fk, T0, hh, hsz, hF, hD, hcs⟩ := hB
      exact ⟨h1, h2, h3, cs, Fk, T0, (hb r _ hr (.inl rfl)).trans hh, hsz, hF, hD, fun k j hk hj => let ⟨c, hc1, hc2⟩ := hcs k j hk hj; ⟨c, hc1, hc2.mono fun x hx => hb r x hr (.inr (hF k j x hk hj hx).1)⟩⟩

theorem BlkR.kill {j : Nat} (hρ : ∀ j, j ≠ i → ρ' j = ρ j) (hj : j ≠ i) (hB : BlkR ρ h Im j blk) : BlkR ρ' h Im j (blk.kill i) := by
  cases blk with
  | box cells =>
    obtain ⟨r, cs, T, hr, hh, hsz, hcs⟩ := hB
    refine ⟨r, cs, T, (hρ j hj).trans hr, hh, by simpa using hsz, fun k a ha => ?_⟩
    rw [List.getElem?_map] at ha
    cases hl : cells[k]? with
    | none => simp [hl] at ha
    | some b =>
      simp [hl] at ha; subst ha
      obtain ⟨c, hc1, hc2⟩ := hcs k b hl
      exact ⟨c, hc1, hc2.killC hρ⟩
  | row T κ l sh =>
    simp only [BlkR, Blk.kill] at hB ⊢
    rw [hρ j hj]; exact hB
  | tree T κ l =>
    simp only [BlkR, Blk.kill] at hB ⊢
    rw [hρ j hj]; exact hB

theorem Blk.kill_pinned : (blk.kill i).pinned = blk.pinned := by cases blk <;> rfl

/-- other memory turns -/
theorem Env.heap (E : Env B ρ Im h) (hb : ∀ i r x, B i ≠ none → ρ i = some r → r.has x → h'[x]? = h[x]?) (hc : ∀ b o, Im b o → hcell h' b o = hcell h b o)
    (hs : h.size ≤ h'.size) : Env B ρ Im h' :=
  ⟨fun i b hi => (E.bl i b hi).mono (fun r x hr hx => hb i r x (by simp [hi]) hr hx) hc (fun _ _ x => x), E.inj, E.fpNe, fun i r x hi hr hx => Nat.lt_of_lt_of_le (E.fpLt i r x hi hr hx) hs, E.fpIm, fun b o hI => Nat.lt_of_lt_of_le (E.imlt b o hI) hs, E.imOwn⟩

/-- a block is forgotten -/
theorem Env.kill (E : Env B ρ Im h) (hρ : ∀ j, j ≠ i → ρ' j = ρ j) : Env (killB B i) ρ' Im h := by
  have ne : ∀ {j b}, killB B i j = some b → j ≠ i := fun {j b} hj e => by subst e; rw [killB_same] at hj; cases hj
  have ne' : ∀ {j}, killB B i j ≠ none → j ≠ i := fun {j} hj e => by subst e; exact hj (killB_same _ _)
  have nn : ∀ {j}, killB B i j ≠ none → B j ≠ none := fun {j} hj e => by rw [killB_ne (ne' hj), e] at hj; exact hj rfl
  refine ⟨fun j b hj => ?_, fun j k r s x hj hk hr hs hx hy => ?_, fun j r hj hr => E.fpNe j r (nn hj) ((hρ j (ne' hj)).symm.trans hr), fun j r x hj hr => E.fpLt j r x (nn hj) ((hρ j (ne' hj)).symm.trans hr),
    fun j r x o hj hr => E.fpIm j r x o (nn hj) ((hρ j (ne' hj)).symm.trans hr), E.imlt, fun j b r o hj hr => ?_⟩
  · have hne := ne hj
    rw [killB_ne hne] at hj
    cases hB : B j with
    | none => simp [hB] at hj
    | some c => simp [hB] at hj; subst hj; exact (E.bl j c hB).kill hρ hne
  · exact E.inj j k r s x (nn hj) (nn hk) ((hρ j (ne' hj)).symm.trans hr) ((hρ k (ne' hk)).symm.trans hs) hx hy
  · have hne := ne hj
    rw [killB_ne hne] at hj
    cases hB : B j with
    | none => simp [hB] at hj
    | some c =>
      simp [hB] at hj; subst hj
      rw [Blk.kill_pinned]
      exact E.imOwn j c r o hB ((hρ j hne).symm.trans hr)

/-- a block is dropped from the list, references stay (they say what they said) -/
theorem Env.drop (E : Env B ρ Im h) : Env (updB B i none) ρ Im h := by
  have nn : ∀ {j b}, updB B i none j = some b → B j = some b := fun {j b} hj => by
    by_cases hne : j = i
    · subst hne; rw [updB_same] at hj; cases hj
    · rwa [updB_ne _ hne] at hj
  have nn' : ∀ {j}, updB B i none j ≠ none → B j ≠ none := fun {j} hj e => by
    by_cases hne : j = i
    · subst hne; exact hj (updB_same _ _ _)
    · rw [updB_ne _ hne] at hj; exact hj e
  exact ⟨fun j b hj => E.bl j b (nn hj), fun j k r s x hj hk => E.inj j k r s x (nn' hj) (nn' hk), fun j r hj => E.fpNe j r (nn' hj), fun j r x hj => E.fpLt j r x (nn' hj), fun j r x o hj => E.fpIm j r x o (nn' hj), E.imlt, fun j b r o hj => E.imOwn j b r o (nn hj)⟩

/-- a block enters -/
theorem Env.insert (E : Env B ρ Im h) (hi : B i = none) (hB : BlkR ρ h Im i blk)
    (hI : ∀ r o, ρ i = some r → (Im r.b o ↔ o < blk.pinned)) (hf : ∀ r, ρ i = some r → ¬ r.fp r.b ∧ ∀ x, r.fp x → x < h.size ∧ ∀ o, ¬ Im x o)
    (hne : ∀ r j s x, ρ i = some r → B j ≠ none → ρ j = some s → s.has x → ¬ r.has x) :
    Env (updB B i (some blk)) ρ Im h := by
  have nn : ∀ {j}, j ≠ i → updB B i (some blk) j ≠ none → B j ≠ none := fun {j} e hj => by rwa [updB_ne _ e] at hj
  refine ⟨fun j b hj => ?_, fun j k r s x hj hk hr hs hx hy => ?_, fun j r hj hr => ?_, fun j r x hj hr hx => ?_, fun j r x o hj hr hx => ?_, E.imlt, fun j b r o hj hr => ?_⟩
  · by_cases e : j = i
    · subst e; rw [updB_same] at hj; cases hj; exact hB
    · rw [updB_ne _ e] at hj; exact E.bl j b hj
  · by_cases e : j = i
    · subst e
      by_cases e' : k = j
      · exact e'.symm
      · exact absurd hx (hne r k s x hr (nn e' hk) hs hy)
    · by_cases e' : k = i
      · subst e'; exact absurd hy (hne s j r x hs (nn e hj) hr hx)
      · exact E.inj j k r s x (nn e hj) (nn e' hk) hr hs hx hy
  · by_cases e : j = i
    · subst e; exact (hf r hr).1
    · exact E.fpNe j r (nn e hj) hr
  · by_cases e : j = i
    · subst e; exact ((hf r hr).2 x hx).1
    · exact E.fpLt j r x (nn e hj) hr hx
  · by_cases e : j = i
    · subst e; exact ((hf r hr).2 x hx).2 o
    · exact E.fpIm j r x o (nn e hj) hr hx
  · by_cases e : j = i
    · subst e; rw [updB_same] at hj; cases hj; exact hI r o hr
    · rw [updB_ne _ e] at hj; exact E.imOwn j b r o hj hr

/-- a block of the state's own is written; cells of it may be given up -/
theorem Env.write {r : RI} (E : Env B ρ Im h) (hi : B i = some blk) (hr : ρ i = some r) (hk : ∀ k, k ≠ r.b → h'[k]? = h[k]?)
    (hIm : ∀ o, Im r.b o → hcell h' r.b o = hcell h r.b o) (hs : h.size ≤ h'.size) (hI : ∀ b o, Im b o → Im' b o) (hI' : ∀ b o, Im' b o → Im b o ∨ b = r.b)
    (hB : BlkR ρ h' Im' i blk') (hp : ∀ o, Im' r.b o ↔ o < blk'.pinned) : Env (updB B i (some blk')) ρ Im' h' := by
  have hc : ∀ b o, Im b o → hcell h' b o = hcell h b o := fun b o hI => by
    by_cases e : b = r.b
    · subst e; exact hIm o hI
    · exact hcell_of_block (hk b e) o
  have hrb : r.b < h.size := by
    have := E.bl i blk hi
    cases blk with
    | box cells => obtain ⟨r', cs, T, hr', hh, _⟩ := this; rw [hr] at hr'; cases hr'; exact (Array.getElem?_eq_some_iff.1 hh).1
    | row T κ l sh => simp only [BlkR, hr] at this; obtain ⟨_, _, _, cs, T0, hh, _⟩ := this; exact (Array.getElem?_eq_some_iff.1 hh).1
    | tree T κ l => simp only [BlkR, hr] at this; obtain ⟨_, _, _, cs, _, T0, hh, _⟩ := this; exact (Array.getElem?_eq_some_iff.1 hh).1
  have nn : ∀ {j}, updB B i (some blk') j ≠ none → B j ≠ none := fun {j} hj e => by
    by_cases hne : j = i
    · subst hne; rw [hi] at e; cases e
    · rw [updB_ne _ hne] at hj; exact hj e
  have far : ∀ {j s x}, j ≠ i → B j ≠ none → ρ j = some s → s.has x → x ≠ r.b := fun {j s x} e hj hs hx eb => e (E.inj j i s r x hj (by simp [hi]) hs hr hx (.inl eb))
  refine ⟨fun j b hj => ?_, fun j k s t x hj hk' hs' ht hx hy => E.inj j k s t x (nn hj) (nn hk') hs' ht hx hy, fun j s hj hs' => E.fpNe j s (nn hj) hs',
    fun j s x hj hs' hx => Nat.lt_of_lt_of_le (E.fpLt j s x (nn hj) hs' hx) hs, fun j s x o hj hs' hx hI2 => ?_, fun b o hIo => ?_, fun j b s o hj hs' => ?_⟩
  · by_cases e : j = i
    · subst e; rw [updB_same] at hj; cases hj; exact hB
    · rw [updB_ne _ e] at hj
      exact (E.bl j b hj).mono (fun s x hs' hx => hk _ (far e (by simp [hj]) hs' hx)) hc hI
  · rcases hI' x o hI2 with h1 | h1
    · exact E.fpIm j s x o (nn hj) hs' hx h1
    · by_cases e : j = i
      · subst e
        rw [hr] at hs'; cases hs'
        subst h1
        exact E.fpNe j r (nn hj) hr hx
      · exact far e (nn hj) hs' (.inr hx) h1
  · rcases hI' b o hIo with h1 | h1
    · exact Nat.lt_of_lt_of_le (E.imlt b o h1) hs
    · subst h1; omega
  · by_cases e : j = i
    · subst e; rw [updB_same] at hj; cases hj
      rw [hr] at hs'; cases hs'
      exact hp o
    · rw [updB_ne _ e] at hj
      have hne : s.b ≠ r.b := far e (by simp [hj]) hs' (.inl rfl)
      rw [← E.imOwn j b s o hj hs']
      exact ⟨fun h1 => (hI' _ _ h1).resolve_right hne, fun h1 => hI _ _ h1⟩

/-- a row is given up: its cells are for good -/
def freezeIm (Im : Nat → Nat → Prop) (b n : Nat) : Nat → Nat → Prop := fun x o => Im x o ∨ (x = b ∧ o < n)

theorem Env.freeze {r : RI} {T : Nat} {κ : K} {l : List κ.T} {sh : Bool} (E : Env B ρ Im h) (hi : B i = some (.row T κ l sh)) (hr : ρ i = some r) :
    Env (updB B i (some (.row T κ l true))) ρ (freezeIm Im r.b (l.length * κ.sz)) h := by
  have hB := E.bl i _ hi
  refine E.write hi hr (fun _ _ => rfl) (fun _ _ => rfl) (Nat.le_refl _) (fun _ _ x => .inl x) (fun b o x => x.imp id And.left) ?_ (fun o => ?_)
  · exact BlkR.mono (blk := .row T κ l true) (fun _ _ _ _ => rfl) (fun _ _ _ => rfl) (fun _ _ x => .inl x) hB
  · simp only [freezeIm, Blk.pinned, true_and]
    refine ⟨fun h1 => h1.elim (fun h2 => ?_) id, .inr⟩
    have := (E.imOwn i _ r o hi hr).1 h2
    cases sh with
    | true => exact this
    | false => exact absurd this (by simp [Blk.pinned])
theorem blk_lt {r : RI} (hB : BlkR ρ h Im i blk) (hr : ρ i = some r) : r.b < h.size := by
  cases blk with
  | box cells => obtain ⟨r', cs, T, hr', hh, _⟩ := hB; rw [hr] at hr'; cases hr'; exact (Array.getElem?_eq_some_iff.1 hh).1
  | row T κ l sh => simp only [BlkR, hr] at hB; obtain ⟨_, _, _, cs, T0, hh, _⟩ := hB; exact (Array.getElem?_eq_some_iff.1 hh).1
  | tree T κ l => simp only [BlkR, hr] at hB; obtain ⟨_, _, _, cs, _, T0, hh, _⟩ := hB; exact (Array.getElem?_eq_some_iff.1 hh).1

theorem Env.lt (E : Env B ρ Im h) {r : RI} {x : Nat} (hi : B i ≠ none) (hr : ρ i = some r) (hx : r.has x) : x < h.size := by
  rcases hx with rfl | hx
  · obtain ⟨b, hb⟩ := Option.ne_none_iff_exists'.1 hi
    exact blk_lt (E.bl i b hb) hr
  · exact E.fpLt i r x hi hr hx

/-- new memory comes, cells of it may be for good -/
theorem Env.grow (E : Env B ρ Im h) (hf : ∀ b, b < h.size → h'[b]? = h[b]?) (hs : h.size ≤ h'.size) (hI : ∀ b o, Im b o → Im' b o)
    (hI2 : ∀ b o, Im' b o → Im b o ∨ (h.size ≤ b ∧ b < h'.size)) : Env B ρ Im' h' := by
  have hc : ∀ b o, Im b o → hcell h' b o = hcell h b o := fun b o h1 => hcell_of_block (hf b (E.imlt b o h1)) o
  refine ⟨fun i b hB => (E.bl i b hB).mono (fun r x hr hx => hf _ (E.lt (by simp [hB]) hr hx)) hc hI, E.inj, E.fpNe, fun i r x hi hr hx => Nat.lt_of_lt_of_le (E.fpLt i r x hi hr hx) hs,
    fun i r x o hi hr hx h2 => ?_, fun b o h1 => ?_, fun i blk r o hB hr => ?_⟩
  · rcases hI2 x o h2 with h3 | h3
    · exact E.fpIm i r x o hi hr hx h3
    · have := E.fpLt i r x hi hr hx; omega
  · rcases hI2 b o h1 with h2 | h2
    · exact Nat.lt_of_lt_of_le (E.imlt b o h2) hs
    · exact h2.2
  · have hlt := E.lt (x := r.b) (by simp [hB]) hr (.inl rfl)
    rw [← E.imOwn i blk r o hB hr]
    exact ⟨fun h1 => (hI2 _ _ h1).resolve_right (by omega), hI _ _⟩
end
end Vg
