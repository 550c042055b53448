/- States by their lists of slots and blocks; weaker states; results that are data. No condition. -/
import Derived.Test.YtgmpfaennbojaaaGreatSound16
namespace Vg
open Go
def lookT : List (Nat × AV) → Nat → AV
 | [], _ => .any
 | (s, v) :: l, t => match Nat.beq s t with | true => v | false => lookT l t
def lookB : List (Nat × Blk) → Nat → Option Blk
 | [], _ => none
 | (s, b) :: l, t => match Nat.beq s t with | true => some b | false => lookB l t
def mkS (n : Nat) (ts : List (Nat × AV)) (bs : List (Nat × Blk)) : AState := ⟨n, fun t => lookT ts t, fun i => lookB bs i⟩
def lookS : List (Nat × Option Nat) → Nat → Option (Option Nat)
 | [], _ => none
 | (s, b) :: l, t => match Nat.beq s t with | true => some b | false => lookS l t
def oldsOf : List (Nat × Option Nat) → List Nat
 | [] => []
 | (_, some i) :: l => i :: oldsOf l
 | (_, none) :: l => oldsOf l
def pinB : List (Nat × Option Nat) → Bool
 | [] => true
 | (s, b) :: l => match Nat.blt s 900000 with
  | true => pinB l
  | false => match b with
   | some i => match Nat.beq s i with
    | true => pinB l
    | false => false
   | none => false
def wkC (σ : List (Nat × Option Nat)) (v' v : AV) : Prop :=
 match v' with
 | .any => True
 | .cell => v.oneC = true
 | .dat d' => match v with
  | .dat d => d' = d
  | .nils => match d' with
   | .seq _ l => l.length = 0
   | _ => False
  | _ => False
 | .nils => match v with
  | .nils => True
  | _ => False
 | .row i' => match v with
  | .row i => lookS σ i' = some (some i)
  | .nils => lookS σ i' = some none
  | _ => False
 | .nilm => match v with
  | .nilm => True
  | _ => False
 | .mp i' => match v with
  | .mp i => lookS σ i' = some (some i)
  | .nilm => lookS σ i' = some none
  | _ => False
 | .ptr i' o' => match v with
  | .ptr i o => lookS σ i' = some (some i) ∧ o' = o
  | _ => False
 | .rptr i' k' j' s' => match v with
  | .rptr i k j s => lookS σ i' = some (some i) ∧ k' = k ∧ j' = j ∧ s' = s
  | _ => False
 | .eptr κ' x' j' => match v with
  | .eptr κ x j => (⟨κ', x'⟩ : Sigma K.T) = ⟨κ, x⟩ ∧ j' = j
  | _ => False
 | _ => False
def wkL (σ : List (Nat × Option Nat)) : List AV → List AV → Prop
 | [], [] => True
 | v' :: l', v :: l => wkC σ v' v ∧ wkL σ l' l
 | _, _ => False
def wk (σ : List (Nat × Option Nat)) (v' v : AV) : Prop :=
 match v' with
 | .agg l' => match v with
  | .agg l => wkL σ l' l
  | _ => False
 | .fn f' l' => match v with
  | .fn f l => f' = f ∧ wkL σ l' l
  | _ => False
 | v' => wkC σ v' v
def wkB (σ : List (Nat × Option Nat)) (blk : Nat → Option Blk) (i' : Nat) (b' : Blk) : Prop :=
 match b' with
 | .box cells' => match lookS σ i' with
  | some (some i) => match blk i with
   | some (.box cells) => wkL σ cells' cells
   | _ => False
  | _ => False
 | .row T' κ' l' sh' => match lookS σ i' with
  | some (some i) => match blk i with
   | some (.row T κ l sh) => (T' = T ∧ sh' = sh) ∧ (⟨κ', l'⟩ : (κ : K) × List κ.T) = ⟨κ, l⟩
   | _ => False
  | some none => l'.length = 0
  | none => False
 | .tree T' κ' l' => match lookS σ i' with
  | some (some i) => match blk i with
   | some (.tree T κ l) => T' = T ∧ (⟨κ', l'⟩ : (κ : K) × List κ.T) = ⟨κ, l⟩
   | _ => False
  | some none => l'.length = 0
  | none => False
 | .mp l' z' => match lookS σ i' with
  | some (some i) => match blk i with
   | some (.mp l z) => l' = l ∧ z' = z
   | _ => False
  | some none => z' = true ∧ l' = []
  | none => False
def wkT (σ : List (Nat × Option Nat)) (tm : Nat → AV) : List (Nat × AV) → Prop
 | [] => True
 | (t, v') :: l => wk σ v' (tm t) ∧ wkT σ tm l
def wkBs (σ : List (Nat × Option Nat)) (blk : Nat → Option Blk) : List (Nat × Blk) → Prop
 | [] => True
 | (i', b') :: l => wkB σ blk i' b' ∧ wkBs σ blk l
def SubP (σ : List (Nat × Option Nat)) (n : Nat) (ts : List (Nat × AV)) (bs : List (Nat × Blk)) (S : AState) : Prop :=
 match S with
 | ⟨m, tm, blk⟩ => (Nat.beq n m = true ∧ nodupB (oldsOf σ) = true ∧ pinB σ = true) ∧ wkT σ tm ts ∧ wkBs σ blk bs
def frzC (B : List Blk) (y x : AV) : Prop :=
 match y with
 | .any => True
 | .cell => x.oneC = true
 | .dat d' => match x with
  | .dat d => d' = d
  | .nils => match d' with
   | .seq _ l => l.length = 0
   | _ => False
  | .row i => match B[i]? with
   | some (.row _ κ l _) => d' = .seq κ l
   | some (.tree _ κ l) => d' = .seq κ l
   | _ => False
  | _ => False
 | .nils => match x with
  | .nils => True
  | _ => False
 | .eptr κ' x' j' => match x with
  | .eptr κ x j => (⟨κ', x'⟩ : Sigma K.T) = ⟨κ, x⟩ ∧ j' = j
  | _ => False
 | _ => False
def frzL (B : List Blk) : List AV → List AV → Prop
 | [], [] => True
 | y :: l', x :: l => frzC B y x ∧ frzL B l' l
 | _, _ => False
def frzM (B : List Blk) (y x : AV) : Prop :=
 match y with
 | .agg l' => match x with
  | .agg l => frzL B l' l
  | _ => False
 | y => frzC B y x
def frzLM (B : List Blk) : List AV → List AV → Prop
 | [], [] => True
 | y :: l', x :: l => frzM B y x ∧ frzLM B l' l
 | _, _ => False
def frz (B : List Blk) (y x : AV) : Prop :=
 match y with
 | .tup l' => match x with
  | .tup l => frzLM B l' l
  | _ => False
 | y => frzM B y x
section
variable {P : Program} {τ : Tys} {Im Im' : Nat → Nat → Prop} {ρ ρ' ρ2 : Rho} {h h' : Array Obj} {w w' : World}
variable {w0 : World} {G : GP} {Im0 : Nat → Nat → Prop} {S : AState} {a : Act} {n : Nat} {tm : Nat → AV} {blk : Nat → Option Blk}
def subR (ρ : Rho) (σ : List (Nat × Option Nat)) : Rho := fun i' => match lookS σ i' with
 | some (some i) => ρ i
 | _ => none
theorem pinB_spec {σ : List (Nat × Option Nat)} {i : Nat} (hp : pinB σ = true) (hi : ¬ i < 900000) : ∀ _ : Option Nat, lookS σ i ≠ some none ∧ ∀ j, lookS σ i = some (some j) → j = i := by
 induction σ with
 | nil => exact fun _ => ⟨fun h => by simp [lookS] at h, fun j h => by simp [lookS] at h⟩
 | cons x l ih =>
  obtain ⟨s, b⟩ := x
  simp only [pinB] at hp
  have ih' : pinB l = true → s ≠ i → ∀ o : Option Nat, lookS ((s, b) :: l) i ≠ some none ∧ ∀ j, lookS ((s, b) :: l) i = some (some j) → j = i := fun h hne => by
   have : Nat.beq s i = false := by cases hb : Nat.beq s i with | false => rfl | true => exact absurd (Nat.eq_of_beq_eq_true hb) hne
   simp only [lookS, this]; exact ih h
  cases hs : Nat.blt s 900000 with
  | true =>
   simp only [hs] at hp
   exact ih' hp (fun e => by subst e; exact hi (blt_lt hs))
  | false =>
   simp only [hs] at hp
   cases b with
   | none => simp at hp
   | some k =>
    simp only at hp
    cases hk : Nat.beq s k with
    | false => simp [hk] at hp
    | true =>
     simp only [hk] at hp
     have hsk := Nat.eq_of_beq_eq_true hk
     subst hsk
     by_cases hne : s = i
     · subst hne
       intro _
       simp [lookS]
     · exact ih' hp hne
theorem wkC_R {σ : List (Nat × Option Nat)} {v' v : AV} {u : Value} (hw : wkC σ v' v) (hr : AVR ρ h Im v u) : AVR (subR ρ σ) h Im v' u := by
 unfold wkC at hw
 split at hw
 · exact .any _
 · exact .cell _ (AVR.one hw hr)
 · split at hw
   · subst hw; cases hr with | dat d v hd => exact .dat _ _ hd
   · split at hw
     · cases hr; exact .dat _ _ (.empty _ _ hw _ _)
     · exact hw.elim
   · exact hw.elim
 · split at hw
   · cases hr; exact .nils
   · exact hw.elim
 · split at hw
   · cases hr with
     | row i r hi => exact .row _ r (by simp [subR, hw, hi])
     | rowN i hi => exact .rowN _ (by simp [subR, hw, hi])
   · cases hr; exact .rowN _ (by simp [subR, hw])
   · exact hw.elim
 · split at hw
   · cases hr; exact .nilm
   · exact hw.elim
 · split at hw
   · cases hr with
     | mp i r hi => exact .mp _ r (by simp [subR, hw, hi])
     | mpN i hi => exact .mpN _ (by simp [subR, hw, hi])
   · cases hr; exact .mpN _ (by simp [subR, hw])
   · exact hw.elim
 · split at hw
   · obtain ⟨h1, rfl⟩ := hw
     cases hr with | ptr i o r hi => exact .ptr _ _ r (by simp [subR, h1, hi])
   · exact hw.elim
 · split at hw
   · obtain ⟨h1, rfl, rfl, rfl⟩ := hw
     cases hr with | rptr i k j s r hi => exact .rptr _ _ _ _ r (by simp [subR, h1, hi])
   · exact hw.elim
 · split at hw
   · obtain ⟨h1, rfl⟩ := hw
     cases h1
     cases hr with | eptr κ x j b o cf him hc hr => exact .eptr _ _ _ b o cf him hc hr
   · exact hw.elim
 · exact hw.elim
theorem wkL_R {σ : List (Nat × Option Nat)} : ∀ {l' l : List AV}, wkL σ l' l → l'.length = l.length ∧ ∀ (j : Nat) (a' : AV), l'[j]? = some a' → ∃ a, l[j]? = some a ∧ wkC σ a' a
 | [], [], _ => ⟨rfl, fun j a ha => by simp at ha⟩
 | v' :: l', v :: l, hw => by
  obtain ⟨h1, h2⟩ := hw
  obtain ⟨h3, h4⟩ := wkL_R h2
  refine ⟨by simp [h3], fun j a ha => ?_⟩
  cases j with
  | zero => simp at ha; subst ha; exact ⟨v, rfl, h1⟩
  | succ j => simp at ha; obtain ⟨x, hx, hx'⟩ := h4 j a ha; exact ⟨x, by simpa using hx, hx'⟩
 | [], _ :: _, hw => hw.elim
 | _ :: _, [], hw => hw.elim
theorem wk_R {σ : List (Nat × Option Nat)} {v' v : AV} {u : Value} (hw : wk σ v' v) (hr : AVR ρ h Im v u) : AVR (subR ρ σ) h Im v' u := by
 unfold wk at hw
 split at hw
 · split at hw
   · obtain ⟨h1, h2⟩ := wkL_R hw
     cases hr with
     | agg l cs cf hl hcf hr =>
      refine .agg _ cs cf (by omega) (fun j hj => hcf j (by omega)) (fun j a' ha => ?_)
      obtain ⟨x, hx, hx'⟩ := h2 j a' ha
      exact wkC_R hx' (hr j x hx)
   · exact hw.elim
 · split at hw
   · obtain ⟨rfl, hw⟩ := hw
     obtain ⟨h1, h2⟩ := wkL_R hw
     cases hr with
     | fn f l cs cf hl hcf hr =>
      refine .fn _ _ cs cf (by omega) (fun j hj => hcf j (by omega)) (fun j a' ha => ?_)
      obtain ⟨x, hx, hx'⟩ := h2 j a' ha
      exact wkC_R hx' (hr j x hx)
   · exact hw.elim
 · exact wkC_R hw hr
theorem wkT_R {σ : List (Nat × Option Nat)} : ∀ {ts : List (Nat × AV)}, wkT σ tm ts → ∀ t, lookT ts t = .any ∨ wk σ (lookT ts t) (tm t)
 | [], _, t => .inl rfl
 | (s, v) :: l, hw, t => by
  obtain ⟨h1, h2⟩ := hw
  unfold lookT
  cases hb : Nat.beq s t with
  | true => have := Nat.eq_of_beq_eq_true hb; subst this; exact .inr h1
  | false => exact wkT_R h2 t
theorem wkBs_R {σ : List (Nat × Option Nat)} : ∀ {bs : List (Nat × Blk)}, wkBs σ blk bs → ∀ i b, lookB bs i = some b → wkB σ blk i b
 | [], _, i, b, hb => by cases hb
 | (s, c) :: l, hw, i, b, hb => by
  obtain ⟨h1, h2⟩ := hw
  unfold lookB at hb
  cases hbq : Nat.beq s i with
  | true =>
   have := Nat.eq_of_beq_eq_true hbq; subst this
   simp only [hbq] at hb; cases hb; exact h1
  | false =>
   simp only [hbq] at hb; exact wkBs_R h2 i b hb
theorem olds_mem {σ : List (Nat × Option Nat)} : ∀ {i' i : Nat}, lookS σ i' = some (some i) → ∃ k : Nat, (oldsOf σ)[k]? = some i := by
 induction σ with
 | nil => intro i' i hl; cases hl
 | cons x l ih =>
  obtain ⟨s, o⟩ := x
  intro i' i hl
  unfold lookS at hl
  cases hb : Nat.beq s i' with
  | true =>
   simp only [hb] at hl
   cases hl
   exact ⟨0, rfl⟩
  | false =>
   simp only [hb] at hl
   obtain ⟨k, hk⟩ := ih hl
   cases o with
   | none => exact ⟨k, hk⟩
   | some j => exact ⟨k + 1, by simpa [oldsOf] using hk⟩
theorem olds_inj {σ : List (Nat × Option Nat)} (hn : nodupB (oldsOf σ) = true) : ∀ {i' j' i : Nat}, lookS σ i' = some (some i) → lookS σ j' = some (some i) → i' = j' := by
 induction σ with
 | nil => intro i' j' i hl; cases hl
 | cons x l ih =>
  obtain ⟨s, o⟩ := x
  intro i' j' i hi hj
  have fresh : ∀ {k'}, o = some i → lookS l k' = some (some i) → False := by
   intro k' ho hk
   subst ho
   obtain ⟨k, hk'⟩ := olds_mem hk
   have := nodupB_spec hn 0 (k + 1) i rfl (by simpa [oldsOf] using hk')
   omega
  have hn' : nodupB (oldsOf l) = true := by
   cases o with
   | none => exact hn
   | some j =>
    simp only [oldsOf, nodupB] at hn
    split at hn
    · cases hn
    · exact hn
  unfold lookS at hi hj
  cases hb : Nat.beq s i' with
  | true =>
   simp only [hb] at hi
   cases hc : Nat.beq s j' with
   | true => exact (Nat.eq_of_beq_eq_true hb).symm.trans (Nat.eq_of_beq_eq_true hc)
   | false => simp only [hc] at hj; cases hi; exact (fresh rfl hj).elim
  | false =>
   simp only [hb] at hi
   cases hc : Nat.beq s j' with
   | true => simp only [hc] at hj; cases hj; exact (fresh rfl hi).elim
   | false => simp only [hc] at hj; exact ih hn' hi hj
theorem wkB_R {σ : List (Nat × Option Nat)} {i : Nat} {b : Blk} (hw : wkB σ blk i b) (hE : ∀ i b, blk i = some b → BlkR ρ h Im i b) : BlkR (subR ρ σ) h Im i b ∧
 ∀ r, subR ρ σ i = some r → ∃ j b', lookS σ i = some (some j) ∧ blk j = some b' ∧ ρ j = some r ∧ b'.pinned = b.pinned := by
 unfold wkB at hw
 split at hw
 · split at hw
   · rename_i j hj
     split at hw
     · rename_i cells hbl
       obtain ⟨h1, h2⟩ := wkL_R hw
       obtain ⟨r, cs, T, hr, hh, hsz, hcs⟩ := hE _ _ hbl
       refine ⟨⟨r, cs, T, by simp [subR, hj, hr], hh, by omega, fun k a' ha => ?_⟩, fun r' hr' => ?_⟩
       · obtain ⟨x, hx, hx'⟩ := h2 k a' ha
         obtain ⟨c, hc, hcr⟩ := hcs k x hx
         exact ⟨c, hc, wkC_R hx' hcr⟩
       · simp only [subR, hj] at hr'
         exact ⟨j, _, hj, hbl, hr', rfl⟩
     · exact hw.elim
   · exact hw.elim
 · split at hw
   · rename_i j hj
     split at hw
     · rename_i T κ l sh hbl
       obtain ⟨⟨rfl, rfl⟩, he⟩ := hw
       cases he
       refine ⟨?_, fun r' hr' => ?_⟩
       · have := hE _ _ hbl
         simp only [BlkR, subR, hj] at this ⊢
         exact this
       · simp only [subR, hj] at hr'
         exact ⟨j, _, hj, hbl, hr', rfl⟩
     · exact hw.elim
   · rename_i hj
     refine ⟨?_, fun r' hr' => ?_⟩
     · simp only [BlkR, subR, hj]; exact hw
     · simp only [subR, hj] at hr'; cases hr'
   · exact hw.elim
 · split at hw
   · rename_i j hj
     split at hw
     · rename_i T κ l hbl
       obtain ⟨rfl, he⟩ := hw
       cases he
       refine ⟨?_, fun r' hr' => ?_⟩
       · have := hE _ _ hbl
         simp only [BlkR, subR, hj] at this ⊢
         exact this
       · simp only [subR, hj] at hr'
         exact ⟨j, _, hj, hbl, hr', rfl⟩
     · exact hw.elim
   · rename_i hj
     refine ⟨?_, fun r' hr' => ?_⟩
     · simp only [BlkR, subR, hj]; exact hw
     · simp only [subR, hj] at hr'; cases hr'
   · exact hw.elim
 · split at hw
   · rename_i j hj
     split at hw
     · rename_i l z hbl
       obtain ⟨rfl, rfl⟩ := hw
       refine ⟨?_, fun r' hr' => ?_⟩
       · have := hE _ _ hbl
         simp only [BlkR, subR, hj] at this ⊢
         exact this
       · simp only [subR, hj] at hr'
         exact ⟨j, _, hj, hbl, hr', rfl⟩
     · exact hw.elim
   · rename_i hj
     refine ⟨?_, fun r' hr' => ?_⟩
     · simp only [BlkR, subR, hj]; exact hw
     · simp only [subR, hj] at hr'; cases hr'
   · exact hw.elim
theorem SubP.sub {σ : List (Nat × Option Nat)} {ts : List (Nat × AV)} {bs : List (Nat × Blk)} (hs : SubP σ n ts bs S) : Sub S (mkS n ts bs) := by
 obtain ⟨m, tm, blk⟩ := S
 obtain ⟨⟨hnm, hnd, hpn⟩, ht, hb⟩ := hs
 have := Nat.eq_of_beq_eq_true hnm
 subst this
 intro w0 G Im0 a w ⟨ρ, Im, hR⟩
 have hB : ∀ i b, lookB bs i = some b → _ := fun i b hi => wkB_R (h := w.heap) (Im := Im) (ρ := ρ) (wkBs_R hb i b hi) hR.env.bl
 have hold : ∀ i b r, lookB bs i = some b → subR ρ σ i = some r → _ := fun i b r hi => (hB i b hi).2 r
 have hold' : ∀ {i r}, lookB bs i ≠ none → subR ρ σ i = some r → ∃ j, lookS σ i = some (some j) ∧ blk j ≠ none ∧ ρ j = some r := fun {i r} hi hr => by
  have ⟨b, hb⟩ := Option.ne_none_iff_exists'.1 hi
  obtain ⟨j, b', h1, h2, h3, _⟩ := hold i b r hb hr
  exact ⟨j, h1, by simp [h2], h3⟩
 refine ⟨subR ρ σ, Im, hR.defers, hR.size, fun t => ?_, ⟨fun i b hi => (hB i b hi).1, fun i j r s x hi hj hr hs hx hy => ?_, fun i r hi hr => ?_, fun i r x hi hr => ?_, fun i r x o hi hr => ?_, hR.env.imlt, fun i b r o hi hr => ?_⟩,
  ⟨fun i r x hi hr => ?_, hR.ext.im0, hR.ext.imNew, hR.ext.keep, hR.ext.frame, hR.ext.grow, hR.ext.os, hR.ext.tape, hR.ext.output, fun i p hp hi => ?_⟩⟩
 · rcases wkT_R ht t with h1 | h1
   · show AVR _ _ _ (lookT ts t) _
     rw [h1]; exact .any _
   · exact wk_R h1 (hR.tm t)
 · obtain ⟨i1, h1, h2, h3⟩ := hold' hi hr
   obtain ⟨j1, h1', h2', h3'⟩ := hold' hj hs
   have := hR.env.inj i1 j1 r s x h2 h2' h3 h3' hx hy
   subst this
   exact olds_inj hnd h1 h1'
 · obtain ⟨i1, h1, h2, h3⟩ := hold' hi hr
   exact hR.env.fpNe i1 r h2 h3
 · obtain ⟨i1, h1, h2, h3⟩ := hold' hi hr
   exact hR.env.fpLt i1 r x h2 h3
 · obtain ⟨i1, h1, h2, h3⟩ := hold' hi hr
   exact hR.env.fpIm i1 r x o h2 h3
 · obtain ⟨i1, b1, h1, h2, h3, h4⟩ := hold i b r hi hr
   rw [← h4]
   exact hR.env.imOwn i1 b1 r o h2 h3
 · obtain ⟨i1, h1, h2, h3⟩ := hold' hi hr
   exact hR.ext.own i1 r x h2 h3
 · have ⟨bi, hbi⟩ := Option.ne_none_iff_exists'.1 hi
   have hge : ¬ i < 900000 := fun hlt => by rw [G.lt i hlt] at hp; cases hp
   have hw := wkBs_R hb i bi hbi
   have e1 := pinB_spec hpn hge
   have key : ∃ j b', lookS σ i = some (some j) ∧ blk j = some b' := by
    unfold wkB at hw
    split at hw
    · split at hw
      · rename_i j hj
        split at hw
        · rename_i c hc; exact ⟨j, _, hj, hc⟩
        · exact hw.elim
      · exact hw.elim
    · split at hw
      · rename_i j hj
        split at hw
        · rename_i hc; exact ⟨j, _, hj, hc⟩
        · exact hw.elim
      · rename_i hj; exact absurd hj (e1 none).1
      · exact hw.elim
    · split at hw
      · rename_i j hj
        split at hw
        · rename_i hc; exact ⟨j, _, hj, hc⟩
        · exact hw.elim
      · rename_i hj; exact absurd hj (e1 none).1
      · exact hw.elim
    · split at hw
      · rename_i j hj
        split at hw
        · rename_i hc; exact ⟨j, _, hj, hc⟩
        · exact hw.elim
      · rename_i hj; exact absurd hj (e1 none).1
      · exact hw.elim
   obtain ⟨j, b', h1, h2⟩ := key
   have e2 := (e1 (some j)).2 j h1
   subst e2
   simp only [subR, h1]
   exact hR.ext.pin j p hp (by show blk j ≠ none; rw [h2]; simp)
/-! ### a result as a datum -/
theorem frzC_R {B : List Blk} {y x : AV} {u : Value} (hw : frzC B y x) (hr : AVR ρ h Im x u)
 (hrow : ∀ i κ l, (∃ T sh, B[i]? = some (.row T κ l sh)) ∨ (∃ T, B[i]? = some (.tree T κ l)) → ∀ u, AVR ρ h Im (.row i) u → RepD h Im' (.seq κ l) u)
 (hI : ∀ b o, Im b o → Im' b o) : AVR ρ' h Im' y u := by
 have hr' : AVR ρ h Im' x u := hr.mono (fun _ _ _ => rfl) hI
 unfold frzC at hw
 split at hw
 · exact .any _
 · exact .cell _ (AVR.one hw hr)
 · split at hw
   · subst hw; cases hr' with | dat d v hd => exact .dat _ _ hd
   · split at hw
     · cases hr; exact .dat _ _ (.empty _ _ hw _ _)
     · exact hw.elim
   · split at hw
     · rename_i hb; subst hw; exact .dat _ _ (hrow _ _ _ (.inl ⟨_, _, hb⟩) _ hr)
     · rename_i hb; subst hw; exact .dat _ _ (hrow _ _ _ (.inr ⟨_, hb⟩) _ hr)
     · exact hw.elim
   · exact hw.elim
 · split at hw
   · cases hr; exact .nils
   · exact hw.elim
 · split at hw
   · obtain ⟨h1, rfl⟩ := hw
     cases h1
     cases hr' with | eptr κ x j b o cf him hc hr3 => exact .eptr _ _ _ b o cf him hc hr3
   · exact hw.elim
 · exact hw.elim
theorem frzL_R {B : List Blk} : ∀ {l' l : List AV}, frzL B l' l → l'.length = l.length ∧ ∀ (j : Nat) (a' : AV), l'[j]? = some a' → ∃ a, l[j]? = some a ∧ frzC B a' a
 | [], [], _ => ⟨rfl, fun j a ha => by simp at ha⟩
 | v' :: l', v :: l, hw => by
  obtain ⟨h1, h2⟩ := hw
  obtain ⟨h3, h4⟩ := frzL_R h2
  refine ⟨by simp [h3], fun j a ha => ?_⟩
  cases j with
  | zero => simp at ha; subst ha; exact ⟨v, rfl, h1⟩
  | succ j => simp at ha; obtain ⟨x, hx, hx'⟩ := h4 j a ha; exact ⟨x, by simpa using hx, hx'⟩
 | [], _ :: _, hw => hw.elim
 | _ :: _, [], hw => hw.elim
theorem frzLM_R {B : List Blk} : ∀ {l' l : List AV}, frzLM B l' l → l'.length = l.length ∧ ∀ (j : Nat) (a' : AV), l'[j]? = some a' → ∃ a, l[j]? = some a ∧ frzM B a' a
 | [], [], _ => ⟨rfl, fun j a ha => by simp at ha⟩
 | v' :: l', v :: l, hw => by
  obtain ⟨h1, h2⟩ := hw
  obtain ⟨h3, h4⟩ := frzLM_R h2
  refine ⟨by simp [h3], fun j a ha => ?_⟩
  cases j with
  | zero => simp at ha; subst ha; exact ⟨v, rfl, h1⟩
  | succ j => simp at ha; obtain ⟨x, hx, hx'⟩ := h4 j a ha; exact ⟨x, by simpa using hx, hx'⟩
 | [], _ :: _, hw => hw.elim
 | _ :: _, [], hw => hw.elim
theorem frzM_R {B : List Blk} {y x : AV} {u : Value} (hw : frzM B y x) (hr : AVR ρ h Im x u)
 (hrow : ∀ i κ l, (∃ T sh, B[i]? = some (.row T κ l sh)) ∨ (∃ T, B[i]? = some (.tree T κ l)) → ∀ u, AVR ρ h Im (.row i) u → RepD h Im' (.seq κ l) u)
 (hI : ∀ b o, Im b o → Im' b o) : AVR ρ' h Im' y u := by
 unfold frzM at hw
 split at hw
 · split at hw
   · obtain ⟨h1, h2⟩ := frzL_R hw
     cases hr with
     | agg l cs cf hl hcf hr =>
      refine .agg _ cs cf (by omega) (fun j hj => hcf j (by omega)) (fun j a' ha => ?_)
      obtain ⟨x, hx, hx'⟩ := h2 j a' ha
      exact frzC_R hx' (hr j x hx) hrow hI
   · exact hw.elim
 · exact frzC_R hw hr hrow hI
theorem frz_R {B : List Blk} {y x : AV} {u : Value} (hw : frz B y x) (hr : AVR ρ h Im x u)
 (hrow : ∀ i κ l, (∃ T sh, B[i]? = some (.row T κ l sh)) ∨ (∃ T, B[i]? = some (.tree T κ l)) → ∀ u, AVR ρ h Im (.row i) u → RepD h Im' (.seq κ l) u)
 (hI : ∀ b o, Im b o → Im' b o) : AVR ρ' h Im' y u := by
 unfold frz at hw
 split at hw
 · split at hw
   · obtain ⟨h1, h2⟩ := frzLM_R hw
     cases hr with
     | tup l cs cf hl hcf hr =>
      refine .tup _ cs cf (by omega) (fun j hj => hcf j (by omega)) (fun j a' ha => ?_)
      obtain ⟨x, hx, hx'⟩ := h2 j a' ha
      exact frzM_R hx' (hr j x hx) hrow hI
   · exact hw.elim
 · exact frzM_R hw hr hrow hI
theorem CallsF.toV {f : FuncId} {args : List AV} {fr : Bool} {R : AV → List Blk → Prop} {X : AV} (hc : CallsF P f args fr R) (hR : ∀ res B', R res B' → frz B' X res) : CallsV P f args X := by
 obtain ⟨hfn, hc⟩ := hc
 refine ⟨hfn, fun w Im vs hsz hargs him => ?_⟩
 refine (hc w Im vs hsz hargs him).mono fun e w' ⟨v, res, B', ρ', Im', he, hRR, hav, henv, hext⟩ => ?_
 let Pin : Nat → Prop := fun b => ∃ i r, B'[i]? ≠ none ∧ ρ' i = some r ∧ r.has b
 let Im2 : Nat → Nat → Prop := fun b o => Im' b o ∨ Pin b
 have hrow : ∀ i κ l, (∃ T sh, B'[i]? = some (.row T κ l sh)) ∨ (∃ T, B'[i]? = some (.tree T κ l)) → ∀ u, AVR ρ' w'.heap Im' (.row i) u → RepD w'.heap Im2 (.seq κ l) u := by
  intro i κ l hb u hu
  have hpos := κ.sz_pos
  have fin : ∀ (r : RI) (cs : Array Value) (T : Nat), B'[i]? ≠ none → ρ' i = some r → w'.heap[r.b]? = some (.cells cs T (0, 0)) → r.len = l.length → r.len ≤ r.cap → r.cap ≤ maxLen →
   (∀ k j, k < l.length → j < κ.sz → ∃ c : Value, cs[k * κ.sz + j]? = some c ∧ RepD w'.heap Im2 (cellOf κ l k j) c) → RepD w'.heap Im2 (.seq κ l) (.slice (some ⟨r.b, 0, none⟩) r.len r.cap) := by
   intro r cs T hi hr h4 h1 h2 h3 h6
   have hcell' : ∀ k j, k < l.length → j < κ.sz → hcell w'.heap r.b (0 + k * κ.sz + j) = some (cs.getD (k * κ.sz + j) undef) := fun k j hk hj => by
    obtain ⟨c, hcc, _⟩ := h6 k j hk hj
    simp [hcell, h4, hcc, Array.getD_eq_getD_getElem?]
   have hlen : l.length ≤ r.cap := by omega
   rw [h1]
   refine .seq κ l r.b 0 r.cap (fun k j => cs.getD (k * κ.sz + j) undef) hlen h3 (fun k j hk hj => .inr ⟨i, r, hi, hr, .inl rfl⟩) hcell' (fun k j hk hj => ?_)
   obtain ⟨c, hcc, hcr⟩ := h6 k j hk hj
   simp only [Array.getD_eq_getD_getElem?, hcc, Option.getD_some]
   exact hcr
  rcases hb with ⟨T, sh, hb⟩ | ⟨T, hb⟩
  · have hB := henv.bl i _ hb
    cases hu with
    | rowN i hi => simp only [BlkR, hi] at hB; exact .empty κ l hB _ _
    | row i r hi =>
     simp only [BlkR, hi] at hB
     obtain ⟨h1, h2, h3, cs, T0, h4, h5, h6⟩ := hB
     refine fin r cs T0 (by simp [hb]) hi h4 h1 h2 h3 fun k j hk hj => ?_
     obtain ⟨c, hcc, hcr⟩ := h6 k j hk hj
     exact ⟨c, hcc, hcr.mono (fun _ _ _ => rfl) (fun _ _ => .inl)⟩
  · have hB := henv.bl i _ hb
    cases hu with
    | rowN i hi => simp only [BlkR, hi] at hB; exact .empty κ l hB _ _
    | row i r hi =>
     simp only [BlkR, hi] at hB
     obtain ⟨h1, h2, h3, cs, Fk, T0, h4, h5, hF, _, h6⟩ := hB
     refine fin r cs T0 (by simp [hb]) hi h4 h1 h2 h3 fun k j hk hj => ?_
     obtain ⟨c, hcc, hcr⟩ := h6 k j hk hj
     exact ⟨c, hcc, hcr.melt fun x o hx => .inr ⟨i, r, by simp [hb], hi, .inr (hF k j x hk hj hx).1⟩⟩
 have hX := frz_R (ρ' := fun _ => none) (hR _ _ hRR) hav hrow (fun _ _ => .inl)
 have hnew : ∀ {b}, Pin b → w.heap.size ≤ b := fun {b} ⟨i, r, hb, hi, hx⟩ => (hext.own i r b hb hi hx).elim (fun h => h.elim) id
 have hlt : ∀ {b}, Pin b → b < w'.heap.size := fun {b} ⟨i, r, hb, hi, hx⟩ => henv.lt hb hi hx
 cases hfl : X.flat with
 | true =>
  exact ⟨v, X, [], fun _ => none, fun _ _ => False, he, ⟨rfl, rfl⟩, hX.flat hfl, ⟨fun i b hi => (by simp at hi), fun i j r s x hi => absurd rfl hi, fun i r hi => absurd rfl hi, fun i r x hi => absurd rfl hi, fun i r x o hi => absurd rfl hi, fun _ _ h => h.elim, fun i b r o hi => (by simp at hi)⟩,
   ⟨fun i r x hi => absurd rfl hi, fun _ _ h => h.elim, fun _ _ h => h.elim, fun _ _ h => h.elim, hext.frame, hext.grow, hext.os, hext.tape, hext.output, fun _ _ h => by cases h⟩⟩
 | false =>
  have him2 : ∀ b o, Im b o → Im2 b o ∨ fr = true := fun b o h => by
   cases fr with
   | false => exact .inl (.inl (hext.im0 b o h))
   | true => exact .inr rfl
  refine ⟨v, X, [], fun _ => none, fun b o => Im2 b o ∨ Im b o, he, ⟨rfl, rfl⟩, hX.mono (fun _ _ _ => rfl) (fun _ _ => .inl), ⟨fun i b hi => (by simp at hi), fun i j r s x hi => absurd rfl hi, fun i r hi => absurd rfl hi, fun i r x hi => absurd rfl hi, fun i r x o hi => absurd rfl hi, fun b o h => ?_, fun i b r o hi => (by simp at hi)⟩,
   ⟨fun i r x hi => absurd rfl hi, fun _ _ h => .inr h, fun b o h => ?_, fun b o h => ?_, hext.frame, hext.grow, hext.os, hext.tape, hext.output, fun _ _ h => by cases h⟩⟩
  · rcases h with (h | h) | h
    · exact henv.imlt b o h
    · exact hlt h
    · exact Nat.lt_of_lt_of_le (him.lt b o h) hext.grow
  · rcases h with (h | h) | h
    · cases fr with
      | false => exact hext.imNew b o h
      | true => exact .inr ((hext.imNew b o h).elim (fun h => h.elim) id)
    · exact .inr (.inr (hnew h))
    · exact .inl h
  · show hcell w'.heap b o = hcell w.heap b o
    exact hcell_of_block (hext.frame b (him.lt b o h) (fun h => h)) o
theorem CallsV.of_awp (hτ : TysOk P τ) (hm : P.follows .mixedOrders = true) {f : FuncId} {fn : Func} {c : Code} {args : List AV} {X : AV} (hf : P.funcs[f]? = some fn) (hname : (fn.name == "runtime.NumGoroutine") = false)
 (hb : fn.body = some c) (hn : Nat.ble args.length fn.ntmps = true)
 (h : awp P τ c ⟨fn.ntmps, fun t => args.getD t .any, fun _ => none⟩ (fpost τ fn false fun res B' => frz B' X res)) : CallsV P f args X :=
 (CallsF.of_awp hτ hm hf hname hb hn h).toV fun _ _ h => h
end
end Vg
