/- Steps of the whole relation: a slot, a new block, a write. -/
import Derived.Test.YtjmgoefijnnooaaSound7
namespace Vg
open Go

theorem blt_lt {t n : Nat} (h : Nat.blt t n = true) : t < n := Nat.le_of_ble_eq_true h

theorem updT_same (tm : Nat → AV) (t : Nat) (v : AV) : updT tm t v t = v := by simp [updT]
theorem updT_ne {tm : Nat → AV} {t s : Nat} (v : AV) (h : s ≠ t) : updT tm t v s = tm s := by
  have : Nat.beq s t = false := by cases hb : Nat.beq s t with | false => rfl | true => exact absurd (Nat.eq_of_beq_eq_true hb) h
  simp [updT, this]

section
variable {P : Program} {τ : Tys} {Im Im' : Nat → Nat → Prop} {ρ ρ' : Rho} {h h' : Array Obj} {w w' : World}
variable {w0 : World} {G : GP} {Im0 : Nat → Nat → Prop} {S : AState} {a : Act} {n : Nat} {tm : Nat → AV} {blk : Nat → Option Blk}

/-- a slot is filled -/
theorem Rel.put (hR : Rel w0 G Im0 ⟨n, tm, blk⟩ ρ Im a w) {t : Nat} {av : AV} {v : Value} (ht : t < n) (hv : AVR ρ w.heap Im av v) :
    Rel w0 G Im0 ⟨n, updT tm t av, blk⟩ ρ Im (a.put (some t) v) w := by
  have hsz : a.tmps.size = n := hR.size
  refine ⟨hR.defers, by simpa [Act.put] using hsz, fun s => ?_, hR.env, hR.ext⟩
  by_cases e : s = t
  · subst e
    have hlt : s < a.tmps.size := by rw [hsz]; exact ht
    simp only [updT_same, Act.put]
    rw [Array.getD_eq_getD_getElem?, Array.getElem?_setIfInBounds_self_of_lt hlt]
    exact hv
  · simp only [updT_ne _ e, Act.put]
    rw [Array.getD_eq_getD_getElem?, Array.getElem?_setIfInBounds_ne (fun e' => e e'.symm), ← Array.getD_eq_getD_getElem?]
    exact hR.tm s

theorem put_ok {dst : Option Nat} {av : AV} {K : AState → Prop} (h : S.put dst av K) :
    ∃ S', K S' ∧ ∀ {ρ Im a w v}, Rel w0 G Im0 S ρ Im a w → AVR ρ w.heap Im av v → Rel w0 G Im0 S' ρ Im (a.put dst v) w := by
  unfold AState.put at h
  cases dst with
  | none => exact ⟨S, h, fun hR _ => hR⟩
  | some t =>
    obtain ⟨n, tm, blk⟩ := S
    simp only at h
    cases hb : Nat.blt t n with
    | false => simp [hb] at h
    | true =>
      simp only [hb] at h
      exact ⟨_, h, fun hR hv => hR.put (blt_lt hb) hv⟩

/-- a block is forgotten -/
theorem Rel.kill {i : Nat} (hR : Rel w0 G Im0 ⟨n, tm, blk⟩ ρ Im a w) (hρ : ∀ j, j ≠ i → ρ' j = ρ j) : Rel w0 G Im0 ⟨n, killT tm i, killB blk i⟩ ρ' Im a w := by
  refine ⟨hR.defers, hR.size, fun t => (hR.tm t).kill hρ, hR.env.kill hρ, ⟨fun j r x hj hr hx => ?_, hR.ext.im0, hR.ext.imNew, hR.ext.keep, hR.ext.frame, hR.ext.grow, hR.ext.os, hR.ext.tape, hR.ext.output, fun j p hp hj => ?_⟩⟩
  · have hne : j ≠ i := fun e => by subst e; exact hj (killB_same _ _)
    refine hR.ext.own j r x (fun e => hj ?_) ((hρ j hne).symm.trans hr) hx
    change blk j = none at e
    change killB blk i j = none
    rw [killB_ne hne, e]; rfl
  · have hne : j ≠ i := fun e => by subst e; exact hj (killB_same _ _)
    refine (hρ j hne).trans (hR.ext.pin j p hp (fun e => hj ?_))
    change blk j = none at e
    change killB blk i j = none
    rw [killB_ne hne, e]; rfl

/-- a block enters -/
theorem Rel.ins {t : Nat} {b : Blk} (hR : Rel w0 G Im0 ⟨n, tm, blk⟩ ρ Im a w) (hn : blk t = none) (hB : BlkR ρ w.heap Im t b)
    (hI : ∀ r o, ρ t = some r → (Im r.b o ↔ o < b.pinned)) (hf : ∀ r, ρ t = some r → ¬ r.fp r.b ∧ ∀ x, r.fp x → x < w.heap.size ∧ ∀ o, ¬ Im x o)
    (hne : ∀ r j s x, ρ t = some r → blk j ≠ none → ρ j = some s → s.has x → ¬ r.has x)
    (hown : ∀ r x, ρ t = some r → r.has x → G x ∨ w0.heap.size ≤ x) (hgp : ∀ p, G.pin t = some p → ρ t = p) : Rel w0 G Im0 ⟨n, tm, updB blk t (some b)⟩ ρ Im a w := by
  refine ⟨hR.defers, hR.size, hR.tm, hR.env.insert hn hB hI hf hne, ⟨fun j r x hj hr hx => ?_, hR.ext.im0, hR.ext.imNew, hR.ext.keep, hR.ext.frame, hR.ext.grow, hR.ext.os, hR.ext.tape, hR.ext.output, fun j p hp hj => ?_⟩⟩
  · by_cases e : j = t
    · subst e; exact hown r x hr hx
    · refine hR.ext.own j r x (fun e' => hj ?_) hr hx
      change blk j = none at e'
      change updB blk t (some b) j = none
      rw [updB_ne _ e]; exact e'
  · by_cases e : j = t
    · subst e; exact hgp p hp
    · refine hR.ext.pin j p hp (fun e' => hj ?_)
      change blk j = none at e'
      change updB blk t (some b) j = none
      rw [updB_ne _ e]; exact e'

/-- a new block under the number t, its address or slice in slot t -/
theorem Rel.new {t : Nat} {b : Blk} {av : AV} {v : Value} {ro : Option RI} (hR : Rel w0 G Im0 ⟨n, tm, blk⟩ ρ Im a w) (ht : t < n ∧ t < 900000)
    (hf : ∀ b, b < w.heap.size → w'.heap[b]? = w.heap[b]?) (hg : w.heap.size ≤ w'.heap.size) (ho : w'.os = w.os) (htp : w'.tape = w.tape) (hout : w'.output = w.output)
    (hro : ∀ r, ro = some r → w.heap.size ≤ r.b ∧ ∀ x, ¬ r.fp x) (hB : BlkR (updR ρ t ro) w'.heap Im t b) (hpin : b.pinned = 0) (hv : AVR (updR ρ t ro) w'.heap Im av v) :
    Rel w0 G Im0 ⟨n, updT (killT tm t) t av, updB (killB blk t) t (some b)⟩ (updR ρ t ro) Im (a.put (some t) v) w' := by
  have h1 := hR.after (Im2 := Im) hf hg ho htp hout (fun _ _ x => x) (fun _ _ x => .inl x)
  have h2 := h1.kill (ρ' := updR ρ t ro) (i := t) (fun j hj => updR_ne _ hj)
  refine Rel.put (h2.ins (killB_same _ _) hB (fun r o hr => ?_) (fun r hr => ?_) (fun r j s x hr hj hs hx hy => ?_) (fun r x hr hx => ?_) (fun p hp => by rw [G.lt t ht.2] at hp; cases hp)) ht.1 hv
  · rw [updR_same] at hr
    rw [hpin]
    refine ⟨fun hI => ?_, fun h => absurd h (by omega)⟩
    have := hR.env.imlt _ _ hI
    have := (hro r hr).1
    omega
  · rw [updR_same] at hr
    have := (hro r hr).2
    exact ⟨this _, fun x hx => absurd hx (this x)⟩
  · rw [updR_same] at hr
    have hne : j ≠ t := fun e => by subst e; exact hj (killB_same _ _)
    rw [updR_ne _ hne] at hs
    rcases hy with hy | hy
    · cases hb : blk j with
      | none => rw [killB_ne hne, hb] at hj; exact hj rfl
      | some c =>
        have := hR.env.lt (i := j) (by show blk j ≠ none; simp [hb]) hs hx
        have := (hro r hr).1
        omega
    · exact (hro r hr).2 x hy
  · rw [updR_same] at hr
    have h3 := hro r hr
    have := hR.ext.grow
    rcases hx with hx | hx
    · right; omega
    · exact absurd hx (h3.2 x)

theorem new_ok {t : Nat} {b : Blk} {av : AV} {K : AState → Prop} (h : S.new t b av K) :
    ∃ n tm blk, S = ⟨n, tm, blk⟩ ∧ (t < n ∧ t < 900000) ∧ K ⟨n, updT (killT tm t) t av, updB (killB blk t) t (some b)⟩ := by
  obtain ⟨n, tm, blk⟩ := S
  simp only [AState.new] at h
  cases hb : Nat.blt t n with
  | false => simp [hb] at h
  | true =>
    simp only [hb] at h
    cases hb2 : Nat.blt t 900000 with
    | false => simp only [hb2] at h
    | true => simp only [hb2] at h; exact ⟨n, tm, blk, rfl, ⟨blt_lt hb, blt_lt hb2⟩, h⟩

/-- a block of the state's own is written, its number and place as they were -/
theorem Rel.write {i : Nat} {b b' : Blk} {r : RI} (hR : Rel w0 G Im0 ⟨n, tm, blk⟩ ρ Im a w) (hi : blk i = some b) (hr : ρ i = some r) (hk : ∀ k, k ≠ r.b → w'.heap[k]? = w.heap[k]?)
    (hIm : ∀ o, Im r.b o → hcell w'.heap r.b o = hcell w.heap r.b o) (hg : w.heap.size ≤ w'.heap.size) (ho : w'.os = w.os) (htp : w'.tape = w.tape) (hout : w'.output = w.output)
    (hI : ∀ b o, Im b o → Im' b o) (hI' : ∀ b o, Im' b o → Im b o ∨ b = r.b)
    (hB : BlkR ρ w'.heap Im' i b') (hp : ∀ o, Im' r.b o ↔ o < b'.pinned) : Rel w0 G Im0 ⟨n, tm, updB blk i (some b')⟩ ρ Im' a w' := by
  have hown := hR.ext.own i r r.b (by change blk i ≠ none; simp [hi]) hr (.inl rfl)
  have hc : ∀ b o, Im b o → hcell w'.heap b o = hcell w.heap b o := fun b o h1 => by
    by_cases e : b = r.b
    · subst e; exact hIm o h1
    · exact hcell_of_block (hk b e) o
  refine ⟨hR.defers, hR.size, fun t => (hR.tm t).mono hc hI, hR.env.write hi hr hk hIm hg hI hI' hB hp,
    ⟨fun j s x hj hs hx => ?_, fun b o h1 => hI b o (hR.ext.im0 b o h1), fun b o h1 => ?_, fun b o h1 => ?_, fun c hc' hG => ?_, Nat.le_trans hR.ext.grow hg, ho.trans hR.ext.os, htp.trans hR.ext.tape, hout.trans hR.ext.output, fun j p hp hj => hR.ext.pin j p hp (fun e => hj ?_)⟩⟩
  · refine hR.ext.own j s x (fun e' => hj ?_) hs hx
    change blk j = none at e'
    change updB blk i (some b') j = none
    by_cases e : j = i
    · subst e; rw [hi] at e'; cases e'
    · rw [updB_ne _ e]; exact e'
  · rcases hI' b o h1 with h2 | h2
    · exact hR.ext.imNew b o h2
    · subst h2; exact .inr hown
  · rw [hc b o (hR.ext.im0 b o h1)]; exact hR.ext.keep b o h1
  · have hne : c ≠ r.b := fun e => by
      subst e
      rcases hown with h2 | h2
      · exact hG h2
      · omega
    rw [hk c hne]; exact hR.ext.frame c hc' hG
  · change blk j = none at e
    change updB blk i (some b') j = none
    have hne : j ≠ i := fun e2 => by subst e2; rw [hi] at e; cases e
    rw [updB_ne _ hne]; exact e

/-- a row is given up -/
theorem Rel.freeze {i T : Nat} {κ : K} {l : List κ.T} {sh : Bool} (hR : Rel w0 G Im0 ⟨n, tm, blk⟩ ρ Im a w) (hi : blk i = some (.row T κ l sh)) :
    ∃ Im', Rel w0 G Im0 ⟨n, tm, updB blk i (some (.row T κ l true))⟩ ρ Im' a w ∧ (∀ b o, Im b o → Im' b o) ∧ ∀ v, AVR ρ w.heap Im (.row i) v → RepD w.heap Im' (.seq κ l) v := by
  cases hr : ρ i with
  | some r =>
    refine ⟨freezeIm Im r.b (l.length * κ.sz), ?_, fun _ _ x => .inl x, fun v hv => row_dat hR.env hi hv (fun _ _ x => .inl x) (fun s o hs ho => ?_)⟩
    · have hE := hR.env.freeze hi hr
      exact hR.write hi hr (fun _ _ => rfl) (fun _ _ => rfl) (Nat.le_refl _) rfl rfl rfl (fun _ _ x => .inl x) (fun b o x => x.imp id And.left)
        (hE.bl i _ (updB_same _ _ _)) (fun o => hE.imOwn i _ r o (updB_same _ _ _) hr)
    · rw [hr] at hs; cases hs; exact .inr ⟨rfl, ho⟩
  | none =>
    have hb := hR.env.bl i _ hi
    simp only [BlkR, hr] at hb
    refine ⟨Im, ?_, fun _ _ x => x, fun v hv => row_dat hR.env hi hv (fun _ _ x => x) (fun s o hs ho => by rw [hr] at hs; cases hs)⟩
    have nn : ∀ {j}, updB blk i (some (.row T κ l true)) j ≠ none → blk j ≠ none := fun {j} hj e' => by
      by_cases e : j = i
      · subst e; rw [hi] at e'; cases e'
      · rw [updB_ne _ e] at hj; exact hj e'
    refine ⟨hR.defers, hR.size, hR.tm, ⟨fun j b hj => ?_, fun j k s u x hj hk => hR.env.inj j k s u x (nn hj) (nn hk), fun j s hj => hR.env.fpNe j s (nn hj), fun j s x hj => hR.env.fpLt j s x (nn hj),
      fun j s x o hj => hR.env.fpIm j s x o (nn hj), hR.env.imlt, fun j b s o hj hs => ?_⟩,
      ⟨fun j s x hj => hR.ext.own j s x (nn hj), hR.ext.im0, hR.ext.imNew, hR.ext.keep, hR.ext.frame, hR.ext.grow, hR.ext.os, hR.ext.tape, hR.ext.output, fun j p hp hj => hR.ext.pin j p hp (nn hj)⟩⟩
    · by_cases e : j = i
      · subst e; change updB blk j _ j = some b at hj; rw [updB_same] at hj; cases hj
        simp only [BlkR, hr]; exact hb
      · change updB blk i _ j = some b at hj; rw [updB_ne _ e] at hj; exact hR.env.bl j b hj
    · by_cases e : j = i
      · subst e; rw [hr] at hs; cases hs
      · change updB blk i _ j = some b at hj; rw [updB_ne _ e] at hj; exact hR.env.imOwn j b s o hj hs

/-- a tree is given up: all of its memory is for good, its name is dropped -/
theorem Rel.melt {i T : Nat} {κ : K} {l : List κ.T} (hR : Rel w0 G Im0 ⟨n, tm, blk⟩ ρ Im a w) (hi : blk i = some (.tree T κ l)) :
    ∃ Im', Rel w0 G Im0 ⟨n, tm, updB blk i none⟩ ρ Im' a w ∧ (∀ b o, Im b o → Im' b o) ∧ ∀ v, AVR ρ w.heap Im (.row i) v → RepD w.heap Im' (.seq κ l) v := by
  have hI : ∀ b o, Im b o → Im b o ∨ ∃ r, ρ i = some r ∧ r.has b := fun _ _ => .inl
  have nn : ∀ {j}, updB blk i none j ≠ none → blk j ≠ none ∧ j ≠ i := fun {j} hj => by
    by_cases e : j = i
    · subst e; exact absurd (updB_same _ _ _) hj
    · rw [updB_ne _ e] at hj; exact ⟨hj, e⟩
  have hiN : blk i ≠ none := by rw [hi]; exact fun h => by cases h
  have far : ∀ {j s x}, updB blk i none j ≠ none → ρ j = some s → s.has x → ¬ ∃ r, ρ i = some r ∧ r.has x := fun {j s x} hj hs hx ⟨r, hr, hx'⟩ =>
    (nn hj).2 (hR.env.inj j i s r x (nn hj).1 hiN hs hr hx hx')
  have hE := hR.env.drop (i := i)
  refine ⟨fun b o => Im b o ∨ ∃ r, ρ i = some r ∧ r.has b, ⟨hR.defers, hR.size, fun t => (hR.tm t).mono (fun _ _ _ => rfl) hI, ⟨fun j b hj => (hE.bl j b hj).mono (fun _ _ _ _ => rfl) (fun _ _ _ => rfl) hI, hE.inj, hE.fpNe, hE.fpLt,
    fun j s x o hj hs hx h => ?_, fun b o h => ?_, fun j b s o hj hs => ?_⟩,
    ⟨fun j s x hj => hR.ext.own j s x (nn hj).1, fun b o h => .inl (hR.ext.im0 b o h), fun b o h => ?_, hR.ext.keep, hR.ext.frame, hR.ext.grow, hR.ext.os, hR.ext.tape, hR.ext.output, fun j p hp hj => hR.ext.pin j p hp (nn hj).1⟩⟩,
    hI, fun v hv => tree_dat hR.env hi hv fun r x o hr hx => .inr ⟨r, hr, hx⟩⟩
  · rcases h with h | h
    · exact hE.fpIm j s x o hj hs hx h
    · exact far hj hs (.inr hx) h
  · rcases h with h | ⟨r, hr, hx⟩
    · exact hE.imlt b o h
    · exact hR.env.lt hiN hr hx
  · rw [← hE.imOwn j b s o hj hs]
    have hj' : updB blk i none j ≠ none := by
      change updB blk i none j = some b at hj
      rw [hj]; exact fun h => by cases h
    exact ⟨fun h => h.resolve_right (far hj' hs (.inl rfl)), .inl⟩
  · rcases h with h | ⟨r, hr, hx⟩
    · exact hR.ext.imNew b o h
    · exact .inr (hR.ext.own i r b hiN hr hx)
end
end Vg
