/- Steps of the memory: what an abstract state says stays true behind a new block, a write, a freeze. No condition. -/
import Derived.Test.YtjmgoefijnnooaaRel
namespace Vg
open Go

def updB (B : Nat → Option Blk) (i : Nat) (b : Option Blk) : Nat → Option Blk := fun j => match Nat.beq j i with | true => b | false => B j
theorem updB_same (B : Nat → Option Blk) (i : Nat) (b : Option Blk) : updB B i b i = b := by simp [updB]
theorem updB_ne {B : Nat → Option Blk} {i j : Nat} (b : Option Blk) (hne : j ≠ i) : updB B i b j = B j := by
  have : Nat.beq j i = false := by cases hb : Nat.beq j i with | false => rfl | true => exact absurd (Nat.eq_of_beq_eq_true hb) hne
  simp [updB, this]
def killB (B : Nat → Option Blk) (i : Nat) : Nat → Option Blk := fun j => match Nat.beq j i with | true => none | false => (B j).map (Blk.kill i)
theorem killB_same (B : Nat → Option Blk) (i : Nat) : killB B i i = none := by simp [killB]
theorem killB_ne {B : Nat → Option Blk} {i j : Nat} (hne : j ≠ i) : killB B i j = (B j).map (Blk.kill i) := by
  have : Nat.beq j i = false := by cases hb : Nat.beq j i with | false => rfl | true => exact absurd (Nat.eq_of_beq_eq_true hb) hne
  simp [killB, this]
def updR (ρ : Rho) (i : Nat) (r : Option RI) : Rho := fun j => if j = i then r else ρ j
theorem updR_same (ρ : Rho) (i : Nat) (r : Option RI) : updR ρ i r i = r := by simp [updR]
theorem updR_ne {ρ : Rho} {i j : Nat} (r : Option RI) (hne : j ≠ i) : updR ρ i r j = ρ j := by simp [updR, hne]

def AState.kill (S : AState) (i : Nat) : AState := match S with | ⟨n, tm, blk⟩ => ⟨n, fun t => (tm t).kill i, killB blk i⟩

section
variable {B : Nat → Option Blk} {ρ ρ' : Rho} {Im Im' : Nat → Nat → Prop} {h h' : Array Obj} {i : Nat} {blk blk' : Blk}

theorem BlkR.mono (hb : ∀ r, ρ i = some r → h'[r.b]? = h[r.b]?) (hc : ∀ b o, Im b o → hcell h' b o = hcell h b o) (hI : ∀ b o, Im b o → Im' b o)
    (hB : BlkR ρ h Im i blk) : BlkR ρ h' Im' i blk := by
  cases blk with
  | box cells =>
    obtain ⟨r, cs, T, hr, hh, hsz, hcs⟩ := hB
    exact ⟨r, cs, T, hr, (hb r hr).trans hh, hsz, fun j a ha => let ⟨c, hc1, hc2⟩ := hcs j a ha; ⟨c, hc1, hc2.mono hc hI⟩⟩
  | row T κ l sh =>
    simp only [BlkR] at hB ⊢
    cases hr : ρ i with
    | none => rw [hr] at hB; exact hB
    | some r =>
      rw [hr] at hB
      obtain ⟨h1, h2, h3, cs, hh, hsz, hcs⟩ := hB
      exact ⟨h1, h2, h3, cs, (hb r hr).trans hh, hsz, fun k j hk hj => let ⟨c, hc1, hc2⟩ := hcs k j hk hj; ⟨c, hc1, hc2.mono hc hI⟩⟩

theorem BlkR.kill {j : Nat} (hρ : ∀ j, j ≠ i → ρ' j = ρ j) (hj : j ≠ i) (hB : BlkR ρ h Im j blk) : BlkR ρ' h Im j (blk.kill i) := by
  cases blk with
  | box cells =>
    obtain ⟨r, cs, T, hr, hh, hsz, hcs⟩ := hB
    refine ⟨r, cs, T, (hρ j hj).trans hr, hh, by simpa using hsz, fun k a ha => ?_⟩
    rw [List.getElem?_map] at ha
    cases hl : cells[k]? with
    | none => simp [hl] at ha
    | some b =>
      simp [hl] at ha; subst ha
      obtain ⟨c, hc1, hc2⟩ := hcs k b hl
      exact ⟨c, hc1, hc2.killC hρ⟩
  | row T κ l sh =>
    simp only [BlkR, Blk.kill] at hB ⊢
    rw [hρ j hj]; exact hB

theorem Blk.kill_pinned : (blk.kill i).pinned = blk.pinned := by cases blk <;> rfl

/-- other memory turns -/
theorem Env.heap (E : Env B ρ Im h) (hb : ∀ i r, B i ≠ none → ρ i = some r → h'[r.b]? = h[r.b]?) (hc : ∀ b o, Im b o → hcell h' b o = hcell h b o)
    (hs : h.size ≤ h'.size) : Env B ρ Im h' :=
  ⟨fun i b hi => (E.bl i b hi).mono (fun r hr => hb i r (by simp [hi]) hr) hc (fun _ _ x => x), E.inj, fun b o hI => Nat.lt_of_lt_of_le (E.imlt b o hI) hs, E.imOwn⟩

/-- a block is forgotten -/
theorem Env.kill (E : Env B ρ Im h) (hρ : ∀ j, j ≠ i → ρ' j = ρ j) : Env (killB B i) ρ' Im h := by
  have ne : ∀ {j b}, killB B i j = some b → j ≠ i := fun {j b} hj e => by subst e; rw [killB_same] at hj; cases hj
  have ne' : ∀ {j}, killB B i j ≠ none → j ≠ i := fun {j} hj e => by subst e; exact hj (killB_same _ _)
  have nn : ∀ {j}, killB B i j ≠ none → B j ≠ none := fun {j} hj e => by rw [killB_ne (ne' hj), e] at hj; exact hj rfl
  refine ⟨fun j b hj => ?_, fun j k r s hj hk hr hs hb => ?_, E.imlt, fun j b r o hj hr => ?_⟩
  · have hne := ne hj
    rw [killB_ne hne] at hj
    cases hB : B j with
    | none => simp [hB] at hj
    | some c => simp [hB] at hj; subst hj; exact (E.bl j c hB).kill hρ hne
  · exact E.inj j k r s (nn hj) (nn hk) ((hρ j (ne' hj)).symm.trans hr) ((hρ k (ne' hk)).symm.trans hs) hb
  · have hne := ne hj
    rw [killB_ne hne] at hj
    cases hB : B j with
    | none => simp [hB] at hj
    | some c =>
      simp [hB] at hj; subst hj
      rw [Blk.kill_pinned]
      exact E.imOwn j c r o hB ((hρ j hne).symm.trans hr)

/-- a block is dropped from the list, references stay (they say what they said) -/
theorem Env.drop (E : Env B ρ Im h) : Env (updB B i none) ρ Im h := by
  have nn : ∀ {j b}, updB B i none j = some b → B j = some b := fun {j b} hj => by
    by_cases hne : j = i
    · subst hne; rw [updB_same] at hj; cases hj
    · rwa [updB_ne _ hne] at hj
  have nn' : ∀ {j}, updB B i none j ≠ none → B j ≠ none := fun {j} hj e => by
    by_cases hne : j = i
    · subst hne; exact hj (updB_same _ _ _)
    · rw [updB_ne _ hne] at hj; exact hj e
  exact ⟨fun j b hj => E.bl j b (nn hj), fun j k r s hj hk => E.inj j k r s (nn' hj) (nn' hk), E.imlt, fun j b r o hj => E.imOwn j b r o (nn hj)⟩

/-- a block enters -/
theorem Env.insert (E : Env B ρ Im h) (hi : B i = none) (hB : BlkR ρ h Im i blk)
    (hI : ∀ r o, ρ i = some r → (Im r.b o ↔ o < blk.pinned)) (hne : ∀ r j s, ρ i = some r → B j ≠ none → ρ j = some s → s.b ≠ r.b) :
    Env (updB B i (some blk)) ρ Im h := by
  refine ⟨fun j b hj => ?_, fun j k r s hj hk hr hs hb => ?_, E.imlt, fun j b r o hj hr => ?_⟩
  · by_cases e : j = i
    · subst e; rw [updB_same] at hj; cases hj; exact hB
    · rw [updB_ne _ e] at hj; exact E.bl j b hj
  · by_cases e : j = i
    · subst e
      by_cases e' : k = j
      · exact e'.symm
      · rw [updB_ne _ e'] at hk; exact absurd hb.symm (hne r k s hr hk hs)
    · rw [updB_ne _ e] at hj
      by_cases e' : k = i
      · subst e'; exact absurd hb (hne s j r hs hj hr)
      · rw [updB_ne _ e'] at hk; exact E.inj j k r s hj hk hr hs hb
  · by_cases e : j = i
    · subst e; rw [updB_same] at hj; cases hj; exact hI r o hr
    · rw [updB_ne _ e] at hj; exact E.imOwn j b r o hj hr

/-- a block of the state's own is written; cells of it may be given up -/
theorem Env.write {r : RI} (E : Env B ρ Im h) (hi : B i = some blk) (hr : ρ i = some r) (hk : ∀ k, k ≠ r.b → h'[k]? = h[k]?)
    (hIm : ∀ o, Im r.b o → hcell h' r.b o = hcell h r.b o) (hs : h.size ≤ h'.size) (hI : ∀ b o, Im b o → Im' b o) (hI' : ∀ b o, Im' b o → Im b o ∨ b = r.b)
    (hB : BlkR ρ h' Im' i blk') (hp : ∀ o, Im' r.b o ↔ o < blk'.pinned) : Env (updB B i (some blk')) ρ Im' h' := by
  have hc : ∀ b o, Im b o → hcell h' b o = hcell h b o := fun b o hI => by
    by_cases e : b = r.b
    · subst e; exact hIm o hI
    · exact hcell_of_block (hk b e) o
  have hrb : r.b < h.size := by
    have := E.bl i blk hi
    cases blk with
    | box cells => obtain ⟨r', cs, T, hr', hh, _⟩ := this; rw [hr] at hr'; cases hr'; exact (Array.getElem?_eq_some_iff.1 hh).1
    | row T κ l sh => simp only [BlkR, hr] at this; obtain ⟨_, _, _, cs, hh, _⟩ := this; exact (Array.getElem?_eq_some_iff.1 hh).1
  refine ⟨fun j b hj => ?_, fun j k s t hj hk' hs' ht hb => ?_, fun b o hIo => ?_, fun j b s o hj hs' => ?_⟩
  · by_cases e : j = i
    · subst e; rw [updB_same] at hj; cases hj; exact hB
    · rw [updB_ne _ e] at hj
      refine (E.bl j b hj).mono (fun s hs' => hk _ (fun eb => ?_)) hc hI
      exact e (E.inj j i s r (by simp [hj]) (by simp [hi]) hs' hr eb)
  · have nn : ∀ {j}, updB B i (some blk') j ≠ none → B j ≠ none := fun {j} hj e => by
      by_cases hne : j = i
      · subst hne; rw [hi] at e; cases e
      · rw [updB_ne _ hne] at hj; exact hj e
    exact E.inj j k s t (nn hj) (nn hk') hs' ht hb
  · rcases hI' b o hIo with h1 | h1
    · exact Nat.lt_of_lt_of_le (E.imlt b o h1) hs
    · subst h1; omega
  · by_cases e : j = i
    · subst e; rw [updB_same] at hj; cases hj
      rw [hr] at hs'; cases hs'
      exact hp o
    · rw [updB_ne _ e] at hj
      have hne : s.b ≠ r.b := fun eb => e (E.inj j i s r (by simp [hj]) (by simp [hi]) hs' hr eb)
      rw [← E.imOwn j b s o hj hs']
      exact ⟨fun h1 => (hI' _ _ h1).resolve_right hne, fun h1 => hI _ _ h1⟩

/-- a row is given up: its cells are for good -/
def freezeIm (Im : Nat → Nat → Prop) (b n : Nat) : Nat → Nat → Prop := fun x o => Im x o ∨ (x = b ∧ o < n)

theorem Env.freeze {r : RI} {T : Nat} {κ : K} {l : List κ.T} {sh : Bool} (E : Env B ρ Im h) (hi : B i = some (.row T κ l sh)) (hr : ρ i = some r) :
    Env (updB B i (some (.row T κ l true))) ρ (freezeIm Im r.b (l.length * κ.sz)) h := by
  have hB := E.bl i _ hi
  refine E.write hi hr (fun _ _ => rfl) (fun _ _ => rfl) (Nat.le_refl _) (fun _ _ x => .inl x) (fun b o x => x.imp id And.left) ?_ (fun o => ?_)
  · exact BlkR.mono (blk := .row T κ l true) (fun _ _ => rfl) (fun _ _ _ => rfl) (fun _ _ x => .inl x) hB
  · simp only [freezeIm, Blk.pinned, true_and]
    refine ⟨fun h1 => h1.elim (fun h2 => ?_) id, .inr⟩
    have := (E.imOwn i _ r o hi hr).1 h2
    cases sh with
    | true => exact this
    | false => exact absurd this (by simp [Blk.pinned])
end
end Vg
