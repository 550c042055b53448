/- Trees: rows whose elements' own slices lie in memory of their own: taking, writing. No condition. -/
import Derived.Test.YtgmpfaennbojaaaGreatSound
namespace Vg
open Go
section
variable {P : Program} {τ : Tys} {Im Im' : Nat → Nat → Prop} {ρ ρ' : Rho} {h h' : Array Obj} {w w' : World}
variable {w0 : World} {G : GP} {Im0 : Nat → Nat → Prop} {S : AState} {a : Act} {n : Nat} {tm : Nat → AV} {blk : Nat → Option Blk}
structure RefP (ρ ρ' : Rho) : Prop where
 none : ∀ i, ρ i = none → ρ' i = none
 some : ∀ i r, ρ i = some r → ∃ fp, ρ' i = some { r with fp := fp }
theorem AVR.refp (hρ : RefP ρ ρ') {v : AV} {u : Value} (hr : AVR ρ h Im v u) : AVR ρ' h Im v u := by
 induction hr with
 | any v => exact .any v
 | cell v hv => exact .cell v hv
 | dat d v hd => exact .dat d v hd
 | nils => exact .nils
 | row i r hi => obtain ⟨fp, e⟩ := hρ.some i r hi; exact .row i { r with fp := fp } e
 | rowN i hi => exact .rowN i (hρ.none i hi)
 | nilm => exact .nilm
 | mp i r hi => obtain ⟨fp, e⟩ := hρ.some i r hi; exact .mp i { r with fp := fp } e
 | mpN i hi => exact .mpN i (hρ.none i hi)
 | ptr i off r hi => obtain ⟨fp, e⟩ := hρ.some i r hi; exact .ptr i off { r with fp := fp } e
 | eptr κ x j b o cf him hc hr => exact .eptr κ x j b o cf him hc hr
 | rptr i k j sz r hi => obtain ⟨fp, e⟩ := hρ.some i r hi; exact .rptr i k j sz { r with fp := fp } e
 | agg l cs cf hl hcf _ ih => exact .agg l cs cf hl hcf ih
 | tup l cs cf hl hcf _ ih => exact .tup l cs cf hl hcf ih
 | fn f l cs cf hl hcf _ ih => exact .fn f l cs cf hl hcf ih
theorem BlkR.refp {i : Nat} {b : Blk} (hρ : RefP ρ ρ') (hi : ρ' i = ρ i) (hB : BlkR ρ h Im i b) : BlkR ρ' h Im i b := by
 cases b with
 | box cells =>
  obtain ⟨r, cs, T, hr, hh, hsz, hcs⟩ := hB
  exact ⟨r, cs, T, hi.trans hr, hh, hsz, fun j x hx => let ⟨c, h1, h2⟩ := hcs j x hx; ⟨c, h1, h2.refp hρ⟩⟩
 | row T κ l sh => simp only [BlkR] at hB ⊢; rw [hi]; exact hB
 | tree T κ l => simp only [BlkR] at hB ⊢; rw [hi]; exact hB
 | mp l z => simp only [BlkR] at hB ⊢; rw [hi]; exact hB
structure Free (w0 : World) (G : GP) (blk : Nat → Option Blk) (ρ : Rho) (Im : Nat → Nat → Prop) (w : World) (x : Nat) : Prop where
 lt : x < w.heap.size
 im : ∀ o, ¬ Im x o
 own : G x ∨ w0.heap.size ≤ x
 far : ∀ j s, blk j ≠ none → ρ j = some s → ¬ s.has x
theorem Rel.writeT {i : Nat} {r : RI} {fp : Nat → Prop} {b b' : Blk} (hR : Rel w0 G Im0 ⟨n, tm, blk⟩ ρ Im a w) (hi : blk i = some b) (hr : ρ i = some r) (hlt : i < 900000)
 (hk : ∀ k, k ≠ r.b → w'.heap[k]? = w.heap[k]?) (hg : w'.heap.size = w.heap.size) (ho : w'.os = w.os) (htp : w'.tape = w.tape) (hout : w'.output = w.output)
 (hp0 : b.pinned = 0) (hp : b'.pinned = 0) (hfp : ∀ x, fp x → r.fp x ∨ Free w0 G blk ρ Im w x)
 (hB : BlkR (updR ρ i (some { r with fp := fp })) w'.heap Im i b') : Rel w0 G Im0 ⟨n, tm, updB blk i (some b')⟩ (updR ρ i (some { r with fp := fp })) Im a w' := by
 have hiN : blk i ≠ none := by rw [hi]; exact fun h => by cases h
 have hown := hR.ext.own i r r.b hiN hr (.inl rfl)
 have hImb : ∀ o, ¬ Im r.b o := fun o h1 => by
  have := (hR.env.imOwn i b r o hi hr).1 h1
  rw [hp0] at this; omega
 have hc : ∀ b o, Im b o → hcell w'.heap b o = hcell w.heap b o := fun b o h1 => hcell_of_block (hk b fun e => hImb o (e ▸ h1)) o
 have href : RefP ρ (updR ρ i (some { r with fp := fp })) := ⟨fun j hj => by
  by_cases e : j = i
  · subst e; rw [hr] at hj; cases hj
  · rw [updR_ne _ e]; exact hj, fun j s hj => by
  by_cases e : j = i
  · subst e; rw [hr] at hj; cases hj; exact ⟨fp, updR_same _ _ _⟩
  · exact ⟨s.fp, by rw [updR_ne _ e]; exact hj⟩⟩
 have nn : ∀ {j}, updB blk i (some b') j ≠ none → blk j ≠ none := fun {j} hj e => by
  by_cases hne : j = i
  · subst hne; exact hiN e
  · rw [updB_ne _ hne] at hj; exact hj e
 have old : ∀ {j s x}, updR ρ i (some { r with fp := fp }) j = some s → s.has x → blk j ≠ none → (∃ s', ρ j = some s' ∧ s'.has x) ∨ (j = i ∧ Free w0 G blk ρ Im w x) := fun {j s x} hs hx hj => by
  by_cases e : j = i
  · subst e
    rw [updR_same] at hs; cases hs
    rcases hx with hx | hx
    · exact .inl ⟨r, hr, .inl hx⟩
    · rcases hfp x hx with h1 | h1
      · exact .inl ⟨r, hr, .inr h1⟩
      · exact .inr ⟨rfl, h1⟩
  · rw [updR_ne _ e] at hs; exact .inl ⟨s, hs, hx⟩
 refine ⟨hR.defers, hR.size, fun t => ((hR.tm t).mono hc (fun _ _ x => x)).refp href, ⟨fun j c hj => ?_, fun j k s u x hj hk' hs hu hx hy => ?_, fun j s hj hs => ?_, fun j s x hj hs hx => ?_, fun j s x o hj hs hx h1 => ?_, fun c o h1 => by rw [hg]; exact hR.env.imlt c o h1, fun j c s o hj hs => ?_⟩,
  ⟨fun j s x hj hs hx => ?_, hR.ext.im0, hR.ext.imNew, fun b o h1 => by rw [hc b o (hR.ext.im0 b o h1)]; exact hR.ext.keep b o h1, fun c hc' hG => ?_, by rw [hg]; exact hR.ext.grow, ho.trans hR.ext.os, htp.trans hR.ext.tape, hout.trans hR.ext.output, fun j p hp' hj => ?_⟩⟩
 · change updB blk i (some b') j = some c at hj
   by_cases e : j = i
   · subst e; rw [updB_same] at hj; cases hj; exact hB
   · rw [updB_ne _ e] at hj
     have hne : ∀ {s x}, ρ j = some s → s.has x → x ≠ r.b := fun {s x} hs hx e' => e (hR.env.inj j i s r x (by change blk j ≠ none; simp [hj]) hiN hs hr hx (.inl e'))
     exact ((hR.env.bl j c hj).mono (fun s x hs hx => hk _ (hne hs hx)) hc (fun _ _ x => x)).refp href (updR_ne _ e)
 · rcases old hs hx (nn hj) with ⟨s', h1, h2⟩ | ⟨rfl, h1⟩
   · rcases old hu hy (nn hk') with ⟨u', h3, h4⟩ | ⟨rfl, h3⟩
     · exact hR.env.inj j k s' u' x (nn hj) (nn hk') h1 h3 h2 h4
     · exact absurd h2 (h3.far j s' (nn hj) h1)
   · rcases old hu hy (nn hk') with ⟨u', h3, h4⟩ | ⟨rfl, h3⟩
     · exact absurd h4 (h1.far k u' (nn hk') h3)
     · rfl
 · by_cases e : j = i
   · subst e; rw [updR_same] at hs; cases hs
     intro hx
     rcases hfp _ hx with h1 | h1
     · exact hR.env.fpNe j r hiN hr h1
     · exact h1.far j r hiN hr (.inl rfl)
   · rw [updR_ne _ e] at hs; exact hR.env.fpNe j s (nn hj) hs
 · rw [hg]
   rcases old hs (.inr hx) (nn hj) with ⟨s', h1, h2⟩ | ⟨_, h1⟩
   · exact hR.env.lt (nn hj) h1 h2
   · exact h1.lt
 · by_cases e : j = i
   · subst e; rw [updR_same] at hs; cases hs
     rcases hfp _ hx with h2 | h2
     · exact hR.env.fpIm j r x o hiN hr h2 h1
     · exact h2.im o h1
   · rw [updR_ne _ e] at hs; exact hR.env.fpIm j s x o (nn hj) hs hx h1
 · change updB blk i (some b') j = some c at hj
   by_cases e : j = i
   · subst e; rw [updB_same] at hj; cases hj
     rw [updR_same] at hs; cases hs
     rw [hp]
     exact ⟨fun h1 => absurd h1 (hImb o), fun h => by omega⟩
   · rw [updB_ne _ e] at hj; rw [updR_ne _ e] at hs; exact hR.env.imOwn j c s o hj hs
 · rcases old hs hx (nn hj) with ⟨s', h1, h2⟩ | ⟨_, h1⟩
   · exact hR.ext.own j s' x (nn hj) h1 h2
   · exact h1.own
 · have hne : c ≠ r.b := fun e => by
    subst e
    rcases hown with h2 | h2
    · exact hG h2
    · omega
   rw [hk c hne]; exact hR.ext.frame c hc' hG
 · have hne : j ≠ i := fun e => by subst e; rw [G.lt j hlt] at hp'; cases hp'
   rw [updR_ne _ hne]; exact hR.ext.pin j p hp' (nn hj)
/-! ### taking memory out of the state -/
theorem Free.mono {blk' : Nat → Option Blk} {x : Nat} (hf : Free w0 G blk ρ Im w x) (hb : ∀ j, blk' j ≠ none → blk j ≠ none) : Free w0 G blk' ρ Im w x :=
 ⟨hf.lt, hf.im, hf.own, fun j s hj => hf.far j s (hb j hj)⟩
theorem kill_sub {i j : Nat} (h : killB blk i j ≠ none) : blk j ≠ none ∧ j ≠ i := by
 have hne : j ≠ i := fun e => by subst e; exact h (killB_same _ _)
 rw [killB_ne hne] at h
 exact ⟨fun e => h (by rw [e]; rfl), hne⟩
theorem K.flat_cell {κ : K} (hf : κ.flat = true) (l : List κ.T) (k j : Nat) : (cellOf κ l k j).flat = true := by
 unfold cellOf
 cases κ <;> first | cases hf | skip
 all_goals (
  generalize List.getD l k _ = y
  match j with
  | 0 => rfl
  | 1 => rfl
  | 2 => rfl
  | 3 => rfl
  | j + 4 => rfl)
theorem RepD.toT {d : Dat} {v : Value} {F : Nat → Prop} (hf : d.flat = true) (hr : RepD h Im d v) : RepT h d v F := by
 cases hr with
 | int k n => exact .int k n F
 | bool b => exact .bool b F
 | str s => exact .str s F
 | errN => cases hf
 | errS => cases hf
 | empty => cases hf
 | seq => cases hf
theorem takeD_ok {z : Dat} {v : AV} {u : Value} {K : AState → Dat → Prop} (h : takeD S z v K) (hR : Rel w0 G Im0 S ρ Im a w) (hv : AVR ρ w.heap Im v u) :
 ∃ S' d F, K S' d ∧ Rel w0 G Im0 S' ρ Im a w ∧ RepT w.heap d u F ∧ (∀ x, F x → Free w0 G S'.blk ρ Im w x) ∧ (∀ x, F x → ∃ i r, S.blk i ≠ none ∧ S'.blk i = none ∧ ρ i = some r ∧ r.has x) ∧ ∀ j, S'.blk j ≠ none → S.blk j ≠ none := by
 unfold takeD at h
 split at h
 · rename_i d
   have hd : RepD w.heap Im d u := by cases hv with | dat _ _ hd => exact hd
   split at h
   · exact h.elim
   · exact ⟨S, _, fun _ => False, h, hR, hd.toT rfl, fun _ x => x.elim, fun _ x => x.elim, fun _ x => x⟩
   · exact ⟨S, _, fun _ => False, h, hR, hd.toT rfl, fun _ x => x.elim, fun _ x => x.elim, fun _ x => x⟩
   · exact ⟨S, _, fun _ => False, h, hR, hd.toT rfl, fun _ x => x.elim, fun _ x => x.elim, fun _ x => x⟩
   · exact h.elim
 · split at h
   · obtain rfl := nils_val hv
     exact ⟨S, _, fun _ => False, h, hR, .nil _ _ rfl _, fun _ x => x.elim, fun _ x => x.elim, fun _ x => x⟩
   · exact h.elim
 · rename_i i
   obtain ⟨n, tm, blk⟩ := S
   simp only at h
   have hkill : Rel w0 G Im0 (AState.kill ⟨n, tm, blk⟩ i) ρ Im a w := hR.kill (fun _ _ => rfl)
   have free : ∀ {b : Blk} {r : RI}, blk i = some b → b.pinned = 0 → ρ i = some r → ∀ x, r.has x → Free w0 G (killB blk i) ρ Im w x := fun {b r} hB hpn hr x hx => by
    have hiN : blk i ≠ none := by rw [hB]; exact fun h => by cases h
    refine ⟨hR.env.lt hiN hr hx, fun o h1 => ?_, hR.ext.own i r x hiN hr hx, fun j s hj hs hy => ?_⟩
    · rcases hx with rfl | hx
      · have := (hR.env.imOwn i b r o hB hr).1 h1
        rw [hpn] at this; omega
      · exact hR.env.fpIm i r x o hiN hr hx h1
    · have := kill_sub hj
      exact this.2 (hR.env.inj j i s r x this.1 hiN hs hr hy hx)
   split at h
   · rename_i T κ l hB
     cases hf : κ.flat with
     | false => simp [hf] at h
     | true =>
      simp only [hf] at h
      have hb := hR.env.bl i _ hB
      cases hv with
      | row _ r hi =>
       refine ⟨_, _, r.has, h, hkill, ?_, free hB rfl hi, fun x hx => ⟨i, r, by simp [hB], killB_same _ _, hi, hx⟩, fun j hj => (kill_sub hj).1⟩
       simp only [BlkR, hi] at hb
       obtain ⟨h1, h2, h3, cs, T0, hh, hsz, hcs⟩ := hb
       rw [h1]
       refine .seq κ l r.b r.cap T0 cs (fun k j => cs.getD (k * κ.sz + j) undef) (fun _ _ _ => False) _ (by omega) h3 (.inl rfl) hh hsz (fun _ _ _ _ _ x => x.elim) (fun _ _ _ _ _ _ _ _ _ x => x.elim) (fun k j hk hj => ?_) (fun k j hk hj => ?_)
       · obtain ⟨c, hc1, _⟩ := hcs k j hk hj
         simp [hc1]
       · obtain ⟨c, hc1, hc2⟩ := hcs k j hk hj
         simp only [Array.getD_eq_getD_getElem?, hc1, Option.getD_some]
         exact hc2.toT (Vg.K.flat_cell hf l k j)
      | rowN _ hi =>
       simp only [BlkR, hi] at hb
       exact ⟨_, _, fun _ => False, h, hkill, .nil κ l hb _, fun _ x => x.elim, fun _ x => x.elim, fun j hj => (kill_sub hj).1⟩
   · rename_i T κ l hB
     have hb := hR.env.bl i _ hB
     cases hv with
     | row _ r hi =>
      refine ⟨_, _, r.has, h, hkill, ?_, free hB rfl hi, fun x hx => ⟨i, r, by simp [hB], killB_same _ _, hi, hx⟩, fun j hj => (kill_sub hj).1⟩
      simp only [BlkR, hi] at hb
      obtain ⟨h1, h2, h3, cs, Fk, T0, hh, hsz, hF, hD, hcs⟩ := hb
      rw [h1]
      refine .seq κ l r.b r.cap T0 cs (fun k j => cs.getD (k * κ.sz + j) undef) Fk _ (by omega) h3 (.inl rfl) hh hsz (fun k j x hk hj hx => ⟨.inr (hF k j x hk hj hx).1, (hF k j x hk hj hx).2⟩) hD (fun k j hk hj => ?_) (fun k j hk hj => ?_)
      · obtain ⟨c, hc1, _⟩ := hcs k j hk hj
        simp [hc1]
      · obtain ⟨c, hc1, hc2⟩ := hcs k j hk hj
        simp only [Array.getD_eq_getD_getElem?, hc1, Option.getD_some]
        exact hc2
     | rowN _ hi =>
      simp only [BlkR, hi] at hb
      exact ⟨_, _, fun _ => False, h, hkill, .nil κ l hb _, fun _ x => x.elim, fun _ x => x.elim, fun j hj => (kill_sub hj).1⟩
   · exact h.elim
 · exact h.elim
theorem takeDs_ok : ∀ (zs : List Dat) (vs : List AV) (S : AState) (cf : Nat → Value) (K : AState → List Dat → Prop), takeDs zs vs S K → Rel w0 G Im0 S ρ Im a w →
 (∀ j v, vs[j]? = some v → AVR ρ w.heap Im v (cf j)) →
 ∃ (S' : AState) (ds : List Dat) (Fs : Nat → Nat → Prop), K S' ds ∧ Rel w0 G Im0 S' ρ Im a w ∧ ds.length = vs.length ∧ vs.length = zs.length ∧ (∀ j d, ds[j]? = some d → RepT w.heap d (cf j) (Fs j)) ∧
  (∀ j x, Fs j x → Free w0 G S'.blk ρ Im w x) ∧ (∀ j j' x, Fs j x → Fs j' x → j = j') ∧ (∀ j x, Fs j x → ∃ i r, S.blk i ≠ none ∧ S'.blk i = none ∧ ρ i = some r ∧ r.has x) ∧ ∀ j, S'.blk j ≠ none → S.blk j ≠ none
 | [], [], S, cf, K, h, hR, _ => ⟨S, [], fun _ _ => False, h, hR, rfl, rfl, by simp, fun _ _ x => x.elim, fun _ _ _ x => x.elim, fun _ _ x => x.elim, fun _ x => x⟩
 | z :: zs, v :: vs, S, cf, K, h, hR, hv => by
  simp only [takeDs] at h
  obtain ⟨S1, d, F, h1, hR1, hd, hF, hF2, hsub⟩ := takeD_ok h hR (hv 0 v rfl)
  obtain ⟨S2, ds, Fs, h2, hR2, hl, hl', hds, hFs, hDs, hFs2, hsub2⟩ := takeDs_ok zs vs S1 (fun j => cf (j + 1)) _ h1 hR1 (fun j x hx => hv (j + 1) x (by simpa using hx))
  have far : ∀ j x, F x → ¬ Fs j x := fun j x hx hy => by
   obtain ⟨i, r, e1, e2, e3, e4⟩ := hFs2 j x hy
   exact (hF x hx).far i r e1 e3 e4
  refine ⟨S2, d :: ds, fun j => match j with | 0 => F | j + 1 => Fs j, h2, hR2, by simp [hl], by simp [hl'], fun j x hx => ?_, fun j x hx => ?_, fun j j' x hx hy => ?_, fun j x hx => ?_, fun j hj => hsub j (hsub2 j hj)⟩
  · cases j with
    | zero => simp at hx; subst hx; exact hd
    | succ j => simp at hx; exact hds j x hx
  · cases j with
    | zero => exact (hF x hx).mono hsub2
    | succ j => exact hFs j x hx
  · cases j with
    | zero => cases j' with
     | zero => rfl
     | succ j' => exact absurd hy (far j' x hx)
    | succ j => cases j' with
     | zero => exact absurd hx (far j x hy)
     | succ j' => rw [hDs j j' x hx hy]
  · cases j with
    | zero =>
     obtain ⟨i, r, e1, e2, e3, e4⟩ := hF2 x hx
     refine ⟨i, r, e1, ?_, e3, e4⟩
     cases e5 : S2.blk i with
     | none => rfl
     | some b => exact absurd e2 (hsub2 i (by rw [e5]; exact fun h => by cases h))
    | succ j =>
     obtain ⟨i, r, e1, e2, e3, e4⟩ := hFs2 j x hx
     exact ⟨i, r, hsub i e1, e2, e3, e4⟩
 | [], _ :: _, _, _, _, h, _, _ => h.elim
 | _ :: _, [], _, _, _, h, _, _ => h.elim
end
end Vg

namespace Vg
open Go
section
variable {P : Program} {τ : Tys} {Im Im' : Nat → Nat → Prop} {ρ ρ' : Rho} {h h' : Array Obj} {w w' : World}
variable {w0 : World} {G : GP} {Im0 : Nat → Nat → Prop} {S : AState} {a : Act} {n : Nat} {tm : Nat → AV} {blk : Nat → Option Blk}
def over (cur : Array Value) (o : Nat) (vs : List Value) : Array Value := (cur.toList.take o ++ vs ++ cur.toList.drop (o + vs.length)).toArray
theorem over_size (cur : Array Value) (o : Nat) (vs : List Value) (ho : o + vs.length ≤ cur.size) : (over cur o vs).size = cur.size := by
 simp [over]; omega
theorem over_get (cur : Array Value) (o : Nat) (vs : List Value) (ho : o + vs.length ≤ cur.size) (k : Nat) :
 (over cur o vs)[k]? = if o ≤ k ∧ k < o + vs.length then vs[k - o]? else cur[k]? := by
 simp only [over, List.getElem?_toArray]
 have hl : (cur.toList.take o).length = o := by simp; omega
 by_cases h1 : k < o
 · rw [if_neg (by omega), List.append_assoc, List.getElem?_append_left (by omega), List.getElem?_take_of_lt h1]; simp
 · by_cases h2 : k < o + vs.length
   · rw [if_pos (by omega), List.getElem?_append_left (by simp only [List.length_append, hl]; omega), List.getElem?_append_right (by omega), hl]
   · rw [if_neg (by omega), List.getElem?_append_right (by simp only [List.length_append, hl]; omega), List.length_append, hl, List.getElem?_drop,
      show o + vs.length + (k - (o + vs.length)) = k from by omega]
     simp
theorem setRow_os (w : World) (g : Nat) (cs : Array Value) : (w.setRow g cs).os = w.os ∧ (w.setRow g cs).tape = w.tape ∧ (w.setRow g cs).output = w.output ∧ (w.setRow g cs).heap.size = w.heap.size := by
 refine ⟨rfl, rfl, rfl, ?_⟩
 simp [World.setRow]
theorem run_storeAt {T b o : Nat} {i : TyI} (ht : TyOk P T i) {v : Value} {cur : Array Value} {T' : Nat} (hv : v.cells.size = i.size) (hh : w.heap[b]? = some (.cells cur T' (0, 0)))
 (ho : o + i.size ≤ cur.size) (h1 : ∀ u ∈ v.cells.toList, u.oneCell' = true) :
 (Instr.storeAt T (.pointer (some ⟨b, o, none⟩)) v).run P w = .ok () (w.setRow b (over cur o v.cells.toList)) := by
 have hl : v.cells.toList.length = i.size := by simpa using hv
 have := run_storeCells_at P b o T' v.cells.toList 0 cur w hh (by omega) h1
 simp only [Nat.add_zero] at this
 simp only [Instr.storeAt, Instr.sureAddr, pure_bind, storeVar, Sem.run_bind, run_sizeOf ht, Result.andThen_ok, hv]
 simp only [ne_eq, not_true, if_false]
 exact this
theorem cells_one_all {vs : List AV} {v : Value} (hall : vs.all AV.oneC = true) (hc : CellsR ρ h Im vs v.cells) : ∀ u ∈ v.cells.toList, u.oneCell' = true := by
 intro u hu
 obtain ⟨j, hj⟩ := List.getElem?_of_mem hu
 rw [Array.getElem?_toList] at hj
 have hjl : j < vs.length := by have := (Array.getElem?_eq_some_iff.1 hj).1; rw [hc.1] at this; exact this
 obtain ⟨c, h1, h2⟩ := hc.2 j _ (List.getElem?_eq_getElem hjl)
 rw [hj] at h1; cases h1
 exact h2.one (List.all_eq_true.1 hall _ (List.getElem_mem hjl))
theorem splice_getD (L ds : List Dat) (j n j' : Nat) (d0 : Dat) (hds : ds.length = n) (hle : j + n ≤ L.length) :
 (L.take j ++ ds ++ L.drop (j + n)).getD j' d0 = if j ≤ j' ∧ j' < j + n then ds.getD (j' - j) d0 else L.getD j' d0 := by
 have hjl : (L.take j).length = j := by simp; omega
 simp only [List.getD_eq_getElem?_getD]
 by_cases h1 : j' < j
 · rw [if_neg (by omega), List.append_assoc, List.getElem?_append_left (by omega), List.getElem?_take_of_lt h1]
 · by_cases h2 : j' < j + n
   · rw [if_pos (by omega), List.append_assoc, List.getElem?_append_right (by omega), hjl, List.getElem?_append_left (by omega)]
   · rw [if_neg (by omega), List.getElem?_append_right (by simp only [List.length_append, hjl]; omega), List.length_append, hjl, hds, List.getElem?_drop,
      show j + n + (j' - (j + n)) = j' from by omega]
theorem over_cell {cur : Array Value} {k j k' j' sz cap : Nat} {vs : List Value} (hsz : cap * sz ≤ cur.size) (hk : k < cap) (hj : j + vs.length ≤ sz) (hj' : j' < sz) :
 (over cur (k * sz + j) vs)[k' * sz + j']? = if k' = k ∧ j ≤ j' ∧ j' < j + vs.length then vs[j' - j]? else cur[k' * sz + j']? := by
 have hkk : (k + 1) * sz ≤ cap * sz := Nat.mul_le_mul_right _ (by omega)
 rw [Nat.add_mul] at hkk
 rw [over_get _ _ _ (by omega)]
 by_cases e : k' = k
 · subst e
   by_cases h1 : j ≤ j' ∧ j' < j + vs.length
   · rw [if_pos (by omega), if_pos ⟨rfl, h1⟩, show k' * sz + j' - (k' * sz + j) = j' - j from by omega]
   · rw [if_neg (by omega), if_neg (fun h => h1 h.2)]
 · have hn : ¬ (k * sz + j ≤ k' * sz + j' ∧ k' * sz + j' < k * sz + j + vs.length) := by
    rcases Nat.lt_or_gt_of_ne e with hlt | hgt
    · have : (k' + 1) * sz ≤ k * sz := Nat.mul_le_mul_right _ hlt
      rw [Nat.add_mul] at this; omega
    · have : (k + 1) * sz ≤ k' * sz := Nat.mul_le_mul_right _ hgt
      rw [Nat.add_mul] at this; omega
   rw [if_neg hn, if_neg (fun h => e h.1)]
theorem astoreC_rel {i : TyI} {id k j sz : Nat} {d : Dat} (hf : d.flat = true) {cells : Array Value} {u : Value} {K : AState → Prop} (h : astoreC i S id k j sz d K) (hR : Rel w0 G Im0 S ρ Im a w)
 (hcr : CellsR ρ w.heap Im [.dat d] cells) (hsz : cells.size = i.size) (hpv : AVR ρ w.heap Im (.rptr id k j sz) u) :
 ∃ b off cur T' S1, u = .pointer (some ⟨b, off, none⟩) ∧ w.heap[b]? = some (.cells cur T' (0, 0)) ∧ off + i.size ≤ cur.size ∧ K S1 ∧ RelE w0 G Im0 S1 a (w.setRow b (over cur off cells.toList)) := by
 unfold astoreC at h
 have hll : cells.toList.length = i.size := by simpa using hsz
 cases hpv with
 | rptr _ _ _ _ r hr =>
 obtain ⟨n, tm, blk⟩ := S
 simp only at h
 cases hB : blk id with
 | none => simp [hB] at h
 | some bb =>
  cases bb with
  | mp => simp [hB] at h
  | box => simp [hB] at h
  | row => simp [hB] at h
  | tree E κ l =>
   simp only [hB] at h
   split at h
   case h_2 => exact h.elim
   rename_i hs hi1
   have hsz' := Nat.eq_of_beq_eq_true hs
   subst hsz'
   cases hd : κ.put1 (l.getD k κ.dflt) j d with
   | none => simp only [hd] at h
   | some y =>
    simp only [hd] at h
    obtain ⟨hk, h⟩ := h
    have henc := Vg.K.put1_enc hd
    have hjlt : j + 1 ≤ κ.sz := by
     have h1 := congrArg List.length henc
     simp only [Vg.K.enc_length, List.length_append, List.length_take, List.length_drop, List.length_cons, List.length_nil] at h1
     omega
    obtain ⟨c, hc1, hc2⟩ := hcr.2 0 _ rfl
    have hdD : RepD w.heap Im d c := by cases hc2 with | dat _ _ hd => exact hd
    have hbl := hR.env.bl id _ hB
    simp only [BlkR, hr] at hbl
    obtain ⟨hb1, hb2, hb3, cur, Fk, T0, hh, hcsz, hF, hD, hcc⟩ := hbl
    have hkk : (k + 1) * κ.sz ≤ r.cap * κ.sz := Nat.mul_le_mul_right _ (by omega)
    rw [Nat.add_mul] at hkk
    have hos := setRow_os w r.b (over cur (k * κ.sz + j) cells.toList)
    have hImb : ∀ o, ¬ Im r.b o := fun o h1 => by
     have := (hR.env.imOwn id _ r o hB hr).1 h1
     simp [Blk.pinned] at this
    refine ⟨r.b, k * κ.sz + j, cur, T0, _, rfl, hh, by omega, h _ rfl, ρ, Im, ?_⟩
    have hheap : (w.setRow r.b (over cur (k * κ.sz + j) cells.toList)).heap[r.b]? = some (.cells (over cur (k * κ.sz + j) cells.toList) T0 (0, 0)) := setRow_heap w r.b cur _ T0 _ hh
    refine hR.write (b' := .tree E κ (l.set k y)) hB hr (fun k' hk' => setRow_other w r.b k' _ hk') (fun o' hI => absurd hI (hImb o')) (by rw [hos.2.2.2]; exact Nat.le_refl _) hos.1 hos.2.1 hos.2.2.1
     (fun _ _ x => x) (fun _ _ x => .inl x) ?_ (fun o' => ⟨fun hI => absurd hI (hImb o'), fun h => by simp [Blk.pinned] at h⟩)
    simp only [BlkR, hr]
    refine ⟨by simpa using hb1, hb2, hb3, _, Fk, _, hheap, by rw [over_size _ _ _ (by rw [hll]; omega)]; exact hcsz, fun k' j' x hk' hj' hx => hF k' j' x (by simpa using hk') hj' hx,
     fun k1 j1 k2 j2 x h1 h2 h3 h4 => hD k1 j1 k2 j2 x (by simpa using h1) h2 (by simpa using h3) h4, fun k' j' hk' hj' => ?_⟩
    simp only [List.length_set] at hk'
    obtain ⟨c0, hq1, hq2⟩ := hcc k' j' hk' hj'
    have keep : ∀ {d : Dat} {v : Value}, RepT w.heap d v (Fk k' j') → RepT (w.setRow r.b (over cur (k * κ.sz + j) cells.toList)).heap d v (Fk k' j') := fun hr' => hr'.mono fun x hx => setRow_other w r.b x _ (hF k' j' x hk' hj' hx).2
    rw [over_cell hcsz (by omega) (by rw [hll]; omega) hj', hll, hi1]
    by_cases e : k' = k
    · subst e
      have hg : (l.set k' y).getD k' κ.dflt = y := by simp [List.getD_eq_getElem?_getD, hk]
      simp only [cellOf, hg, henc]
      rw [splice_getD _ [d] j 1 j' _ rfl (by rw [κ.enc_length]; exact hjlt)]
      by_cases hin : j ≤ j' ∧ j' < j + 1
      · rw [if_pos ⟨trivial, hin⟩, if_pos hin]
        have : j' - j = 0 := by omega
        rw [this]
        refine ⟨c, by simpa using hc1, keep (hdD.toT hf)⟩
      · rw [if_neg (fun h => hin h.2), if_neg hin]
        exact ⟨c0, hq1, keep hq2⟩
    · rw [if_neg (fun h => e h.1)]
      have hg : (l.set k y).getD k' κ.dflt = l.getD k' κ.dflt := by simp [List.getD_eq_getElem?_getD, List.getElem?_set_ne (fun e' => e e'.symm)]
      simp only [cellOf, hg]
      exact ⟨c0, hq1, keep hq2⟩
theorem astoreT_rel {i : TyI} {id k j sz : Nat} {vs : List AV} {cells : Array Value} {u : Value} {K : AState → Prop} (h : astoreT i S id k j sz vs K) (hR : Rel w0 G Im0 S ρ Im a w)
 (hcr : CellsR ρ w.heap Im vs cells) (hsz : cells.size = i.size) (hpv : AVR ρ w.heap Im (.rptr id k j sz) u) :
 ∃ b off cur T' S1, u = .pointer (some ⟨b, off, none⟩) ∧ w.heap[b]? = some (.cells cur T' (0, 0)) ∧ off + i.size ≤ cur.size ∧ K S1 ∧ RelE w0 G Im0 S1 a (w.setRow b (over cur off cells.toList)) := by
 unfold astoreT at h
 have hll : cells.toList.length = i.size := by simpa using hsz
 split at h
 · exact astoreC_rel rfl h hR hcr hsz hpv
 · exact astoreC_rel rfl h hR hcr hsz hpv
 cases hpv with
 | rptr _ _ _ _ r hr =>
 · -- an element whole
   cases hlt : Nat.blt id 900000 with
   | false => simp [hlt] at h
   | true =>
    simp only [hlt] at h
    obtain ⟨S', ds, Fs, h9, hR', hdl, hdl', hds, hFr, hDs, _, _⟩ := takeDs_ok i.zeroD vs S (fun j => cells.getD j undef) _ h hR (fun j y hy => by
     obtain ⟨c, hc1, hc2⟩ := hcr.2 j y hy
     simpa [hc1] using hc2)
    obtain ⟨n, tm, blk⟩ := S'
    simp only at h9
    cases hB : blk id with
    | none => simp [hB] at h9
    | some bb =>
     cases bb with
     | mp => simp [hB] at h9
     | box => simp [hB] at h9
     | row => simp [hB] at h9
     | tree E κ l =>
      simp only [hB] at h9
      split at h9
      case h_2 => exact h9.elim
      rename_i hs hj0 his
      have hsz' := Nat.eq_of_beq_eq_true hs
      have hj0' := Nat.eq_of_beq_eq_true hj0
      have his' := Nat.eq_of_beq_eq_true his
      subst hsz' hj0'
      obtain ⟨hk, h9⟩ := h9
      cases hd : κ.dec ds with
      | none => simp only [hd] at h9
      | some y =>
       simp only [hd] at h9
       have henc := Vg.K.dec_enc hd
       have hbl := hR'.env.bl id _ hB
       simp only [BlkR, hr] at hbl
       obtain ⟨hb1, hb2, hb3, cur, Fk, T0, hh, hcsz, hF, hD, hcc⟩ := hbl
       have hkk : (k + 1) * κ.sz ≤ r.cap * κ.sz := Nat.mul_le_mul_right _ (by omega)
       rw [Nat.add_mul] at hkk
       have hos := setRow_os w r.b (over cur (k * κ.sz + 0) cells.toList)
       have hbN : blk id ≠ none := by rw [hB]; exact fun h => by cases h
       refine ⟨r.b, k * κ.sz + 0, cur, T0, _, rfl, hh, by rw [his']; omega, h9 _ rfl, updR ρ id (some { r with fp := fun x => r.fp x ∨ ∃ j, Fs j x }), Im, ?_⟩
       have hheap : (w.setRow r.b (over cur (k * κ.sz + 0) cells.toList)).heap[r.b]? = some (.cells (over cur (k * κ.sz + 0) cells.toList) T0 (0, 0)) := setRow_heap w r.b cur _ T0 _ hh
       refine hR'.writeT (b' := .tree E κ (l.set k y)) hB hr (blt_lt hlt) (fun k' hk' => setRow_other w r.b k' _ hk') hos.2.2.2 hos.1 hos.2.1 hos.2.2.1 rfl rfl
        (fun x hx => hx.imp (fun h => h) fun ⟨j, hj⟩ => hFr j x hj) ?_
       simp only [BlkR, updR_same]
       refine ⟨by simpa using hb1, hb2, hb3, _, fun k' j' => if k' = k then Fs j' else Fk k' j', _, hheap, by rw [over_size _ _ _ (by rw [hll, his']; omega)]; exact hcsz, fun k' j' x hk' hj' hx => ?_,
        fun k1 j1 k2 j2 x h1 h2 h3 h4 hx hy => ?_, fun k' j' hk' hj' => ?_⟩
       · replace hx : (if k' = k then Fs j' else Fk k' j') x := hx
         by_cases e : k' = k
         · rw [if_pos e] at hx
           exact ⟨.inr ⟨j', hx⟩, fun e' => (hFr j' x hx).far id r hbN hr (.inl e')⟩
         · rw [if_neg e] at hx
           have := hF k' j' x (by simpa using hk') hj' hx
           exact ⟨.inl this.1, this.2⟩
       · replace hx : (if k1 = k then Fs j1 else Fk k1 j1) x := hx
         replace hy : (if k2 = k then Fs j2 else Fk k2 j2) x := hy
         by_cases e1 : k1 = k
         · by_cases e2 : k2 = k
           · rw [if_pos e1] at hx; rw [if_pos e2] at hy
             exact ⟨e1.trans e2.symm, hDs j1 j2 x hx hy⟩
           · rw [if_pos e1] at hx; rw [if_neg e2] at hy
             exact absurd (.inr (hF k2 j2 x (by simpa using h3) h4 hy).1) ((hFr j1 x hx).far id r hbN hr)
         · by_cases e2 : k2 = k
           · rw [if_neg e1] at hx; rw [if_pos e2] at hy
             exact absurd (.inr (hF k1 j1 x (by simpa using h1) h2 hx).1) ((hFr j2 x hy).far id r hbN hr)
           · rw [if_neg e1] at hx; rw [if_neg e2] at hy
             exact hD k1 j1 k2 j2 x (by simpa using h1) h2 (by simpa using h3) h4 hx hy
       · simp only [List.length_set] at hk'
         change ∃ c, _ ∧ RepT _ _ c (if k' = k then Fs j' else Fk k' j')
         rw [over_cell hcsz (by omega) (by rw [hll, his']; omega) hj', hll, his']
         by_cases e : k' = k
         · subst e
           have hg : (l.set k' y).getD k' κ.dflt = y := by simp [List.getD_eq_getElem?_getD, hk]
           rw [if_pos ⟨rfl, by omega, by omega⟩, if_pos rfl]
           simp only [cellOf, hg, henc]
           have hjl : j' < ds.length := by
            have := κ.enc_length y
            rw [henc] at this; omega
           have h5 := hds j' _ (List.getElem?_eq_getElem hjl)
           have hlt2 : j' < cells.size := by rw [hsz, his']; exact hj'
           refine ⟨cells[j'], by simp [hlt2], ?_⟩
           simp only [Array.getD_eq_getD_getElem?, Array.getElem?_eq_getElem hlt2, Option.getD_some] at h5
           rw [List.getD_eq_getElem?_getD, List.getElem?_eq_getElem hjl]
           exact h5.mono fun x hx => setRow_other w r.b x _ fun e' => (hFr j' x hx).far id r hbN hr (.inl e')
         · rw [if_neg (fun h => e h.1), if_neg e]
           have hg : (l.set k y).getD k' κ.dflt = l.getD k' κ.dflt := by simp [List.getD_eq_getElem?_getD, List.getElem?_set_ne (fun e' => e e'.symm)]
           simp only [cellOf, hg]
           obtain ⟨c0, hq1, hq2⟩ := hcc k' j' hk' hj'
           exact ⟨c0, hq1, hq2.mono fun x hx => setRow_other w r.b x _ (hF k' j' x hk' hj' hx).2⟩
theorem astore_ok (hτ : TysOk P τ) {o : Oper} {T : Nat} {pa x : Operand} {K : AState → Prop} (hop : o.op = .store T pa x) (hst : astore τ S T (ev S pa) (ev S x) fun S => S.put o.dst .any K)
 (hR : Rel w0 G Im0 S ρ Im a w) {next : Act → World → Prop} {Q : Exit → Act → World → Prop}
 (hn : ∀ S' a' w', K S' → RelE w0 G Im0 S' a' w' → next a' w') : o.wp P a w next Q := by
 unfold astore at hst
 have hpv := ev_rel hR pa
 have hxv := ev_rel hR x
 generalize hp' : ev S pa = p at hst hpv
 generalize hx' : ev S x = v at hst hxv
 cases hT : τ T with
 | none => simp [hT] at hst
 | some i =>
  cases hc : v.cells1 with
  | none => simp [hT, hc] at hst
  | some vs =>
   simp only [hT, hc] at hst
   cases hl : Nat.beq vs.length i.size with
   | false => simp [hl] at hst
   | true =>
    cases hall : vs.all AV.oneC with
    | false => simp [hl, hall] at hst
    | true =>
     simp only [hl, hall] at hst
     have hlen : vs.length = i.size := Nat.eq_of_beq_eq_true hl
     have hcr : CellsR ρ w.heap Im vs (a.eval x).cells := hxv.cells1 hc
     have hsz : (a.eval x).cells.size = i.size := by rw [hcr.1, hlen]
     have hones := cells_one_all hall hcr
     have hll : (a.eval x).cells.toList.length = i.size := by simpa using hsz
     have fin : ∀ {b off : Nat} {cur : Array Value} {T' : Nat}, a.eval pa = .pointer (some ⟨b, off, none⟩) → w.heap[b]? = some (.cells cur T' (0, 0)) → off + i.size ≤ cur.size →
      ∀ {S1 : AState}, (S1.put o.dst .any K) → RelE w0 G Im0 S1 a (w.setRow b (over cur off (a.eval x).cells.toList)) → o.wp P a w next Q := by
      intro b off cur T' h1 h2 h3 S1 hput hrel
      have hrun := run_storeAt (hτ T i hT) hsz h2 h3 hones
      unfold Oper.wp
      have : (execOp a.eval o).run P w = .ok .skip (w.setRow b (over cur off (a.eval x).cells.toList)) := by
       simp only [execOp, hop, h1, Sem.run_bind, hrun, Result.andThen_ok, Sem.run_pure]
      rw [this]
      simp only [Oper.upon]
      obtain ⟨S2, hK, hS2⟩ := put_ok (w0 := w0) (G := G) (Im0 := Im0) hput
      obtain ⟨ρ', Im', hr'⟩ := hrel
      exact hn S2 _ _ hK ⟨ρ', Im', hS2 hr' (.any _)⟩
     split at hst
     · -- a box
       rename_i id off
       obtain ⟨n, tm, blk⟩ := S
       simp only at hst
       cases hB : blk id with
       | none => simp [hB] at hst
       | some bb =>
        cases bb with
        | mp => simp [hB] at hst
        | row => simp [hB] at hst
        | tree => simp [hB] at hst
        | box cells =>
         simp only [hB] at hst
         cases hb : Nat.ble (off + i.size) cells.length with
         | false => simp [hb] at hst
         | true =>
          simp only [hb, forceL_eq] at hst
          have hle := Nat.le_of_ble_eq_true hb
          have hbl := hR.env.bl id _ hB
          obtain ⟨r, cur, T', hr, hh, hcsz, hcc⟩ := hbl
          have hpe : a.eval pa = .pointer (some ⟨r.b, off, none⟩) := by
           generalize a.eval pa = u at hpv
           cases hpv with
           | ptr _ _ r' hi => rw [hr] at hi; cases hi; rfl
          have hos := setRow_os w r.b (over cur off (a.eval x).cells.toList)
          have hho : off + (a.eval x).cells.toList.length ≤ cur.size := by rw [hll, hcsz]; exact hle
          refine fin hpe hh (by rw [hcsz]; exact hle) hst ⟨ρ, Im, ?_⟩
          have hheap : (w.setRow r.b (over cur off (a.eval x).cells.toList)).heap[r.b]? = some (.cells (over cur off (a.eval x).cells.toList) T' (0, 0)) := setRow_heap w r.b cur _ T' _ hh
          have hIm : ∀ o', ¬ Im r.b o' := fun o' hI => by
           have := (hR.env.imOwn id _ r o' hB hr).1 hI
           simp [Blk.pinned] at this
          have hce : ∀ b o', Im b o' → hcell (w.setRow r.b (over cur off (a.eval x).cells.toList)).heap b o' = hcell w.heap b o' := fun b o' hI => by
           refine hcell_of_block (setRow_other w r.b b _ (fun e => ?_)) o'
           subst e; exact hIm o' hI
          refine hR.write (b' := .box (setCells cells off vs)) hB hr (fun k hk => setRow_other w r.b k _ hk) (fun o' hI => absurd hI (hIm o')) (by rw [hos.2.2.2]; exact Nat.le_refl _) hos.1 hos.2.1 hos.2.2.1
           (fun _ _ x => x) (fun _ _ x => .inl x) ?_ (fun o' => ⟨fun hI => absurd hI (hIm o'), fun h => by simp [Blk.pinned] at h⟩)
          refine ⟨r, _, T', hr, hheap, by rw [over_size _ _ _ hho, setCells_length]; exact hcsz, fun j y hy => ?_⟩
          rw [setCells_get _ _ _ _ (by rw [hlen]; exact hle)] at hy
          rw [over_get _ _ _ hho, hll]
          rw [hlen] at hy
          split at hy
          · rename_i hin
            rw [if_pos hin]
            obtain ⟨c, hc1, hc2⟩ := hcr.2 _ y hy
            exact ⟨c, by simpa using hc1, hc2.mono hce (fun _ _ x => x)⟩
          · rename_i hin
            rw [if_neg hin]
            obtain ⟨c, hc1, hc2⟩ := hcc j y hy
            exact ⟨c, hc1, hc2.mono hce (fun _ _ x => x)⟩
     · -- an element of a row
       rename_i id k j sz
       cases htr : isTree S.blk id with
       | true =>
        simp only [htr] at hst
        obtain ⟨b, off, cur, T', S1, e1, e2, e3, e4, e5⟩ := astoreT_rel hst hR hcr hsz hpv
        exact fin e1 e2 e3 e4 e5
       | false =>
       simp only [htr] at hst
       obtain ⟨S', ds, Im', h1, hR', hI, hdl, hdl', hds⟩ := datFs_ok i.zeroD vs S Im (fun j => (a.eval x).cells.getD j undef) _ hst hR (fun j y hy => by
        obtain ⟨c, hc1, hc2⟩ := hcr.2 j y hy
        simpa [hc1] using hc2)
       obtain ⟨n, tm, blk⟩ := S'
       simp only at h1
       cases hB : blk id with
       | none => simp [hB] at h1
       | some bb =>
        cases bb with
        | mp => simp [hB] at h1
        | box => simp [hB] at h1
        | tree => simp [hB] at h1
        | row E κ l sh =>
         cases sh with
         | true => simp [hB] at h1
         | false =>
          simp only [hB] at h1
          cases hs : Nat.beq sz κ.sz with
          | false => simp [hs] at h1
          | true =>
           cases hb : Nat.ble (j + i.size) κ.sz with
           | false => simp [hs, hb] at h1
           | true =>
            simp only [hs, hb] at h1
            have hsz' : sz = κ.sz := Nat.eq_of_beq_eq_true hs
            subst hsz'
            have hle := Nat.le_of_ble_eq_true hb
            have main : ∃ y, k < l.length ∧ κ.enc y = (((κ.enc (l.getD k κ.dflt)).take j) ++ ds ++ ((κ.enc (l.getD k κ.dflt)).drop (j + i.size))) ∧
             (AState.setB ⟨n, tm, blk⟩ id (.row E κ (l.set k y) false)).put o.dst .any K := by
             cases hq : Nat.beq i.size κ.sz with
             | true =>
              simp only [hq] at h1
              obtain ⟨hk, h1⟩ := h1
              cases hd : κ.dec (((κ.enc (l.getD k κ.dflt)).take j) ++ ds ++ ((κ.enc (l.getD k κ.dflt)).drop (j + i.size))) with
              | none => simp only [hd] at h1
              | some y => simp only [hd] at h1; exact ⟨y, hk, Vg.K.dec_enc hd, h1⟩
             | false =>
              simp only [hq] at h1
              split at h1
              case h_2 => exact h1.elim
              rename_i d hi1
              cases hd : κ.put1 (l.getD k κ.dflt) j d with
              | none => simp only [hd] at h1
              | some y => simp only [hd] at h1; exact ⟨y, h1.1, by rw [hi1]; exact Vg.K.put1_enc hd, h1.2 _ rfl⟩
            obtain ⟨y, hk, henc, h1⟩ := main
            · have hbl := hR'.env.bl id _ hB
              have hpv' := hpv
              generalize hu : a.eval pa = u at hpv'
              cases hpv' with
              | rptr _ _ _ _ r hr =>
               simp only [BlkR, hr] at hbl
               obtain ⟨hb1, hb2, hb3, cur, T0, hh, hcsz, hcc⟩ := hbl
               have hkk : (k + 1) * κ.sz ≤ r.cap * κ.sz := Nat.mul_le_mul_right _ (by omega)
               rw [Nat.add_mul] at hkk
               have hho : k * κ.sz + j + (a.eval x).cells.toList.length ≤ cur.size := by rw [hll]; omega
               have hos := setRow_os w r.b (over cur (k * κ.sz + j) (a.eval x).cells.toList)
               refine fin hu hh (by omega) h1 ⟨ρ, Im', ?_⟩
               have hheap : (w.setRow r.b (over cur (k * κ.sz + j) (a.eval x).cells.toList)).heap[r.b]? = some (.cells (over cur (k * κ.sz + j) (a.eval x).cells.toList) T0 (0, 0)) := setRow_heap w r.b cur _ T0 _ hh
               have hIm : ∀ o', ¬ Im' r.b o' := fun o' hI => by
                have := (hR'.env.imOwn id _ r o' hB hr).1 hI
                simp [Blk.pinned] at this
               have hce : ∀ b o', Im' b o' → hcell (w.setRow r.b (over cur (k * κ.sz + j) (a.eval x).cells.toList)).heap b o' = hcell w.heap b o' := fun b o' hI => by
                refine hcell_of_block (setRow_other w r.b b _ (fun e => ?_)) o'
                subst e; exact hIm o' hI
               refine hR'.write (b' := .row E κ (l.set k y) false) hB hr (fun k' hk' => setRow_other w r.b k' _ hk') (fun o' hI => absurd hI (hIm o')) (by rw [hos.2.2.2]; exact Nat.le_refl _) hos.1 hos.2.1 hos.2.2.1
                (fun _ _ x => x) (fun _ _ x => .inl x) ?_ (fun o' => ⟨fun hI => absurd hI (hIm o'), fun h => by simp [Blk.pinned] at h⟩)
               simp only [BlkR, hr]
               refine ⟨by simpa using hb1, hb2, hb3, _, _, hheap, by rw [over_size _ _ _ hho]; exact hcsz, fun k' j' hk' hj' => ?_⟩
               simp only [List.length_set] at hk'
               rw [over_get _ _ _ hho, hll]
               obtain ⟨c0, hc1, hc2⟩ := hcc k' j' hk' hj'
               by_cases hkk' : k' = k
               · subst hkk'
                 have hg : (l.set k' y).getD k' κ.dflt = y := by simp [List.getD_eq_getElem?_getD, hk]
                 have hdsl : ds.length = i.size := by rw [hdl, hlen]
                 simp only [cellOf, hg, henc]
                 rw [splice_getD _ ds j i.size j' _ hdsl (by rw [κ.enc_length]; exact hle)]
                 by_cases hin : j ≤ j' ∧ j' < j + i.size
                 · rw [if_pos (by omega), if_pos hin]
                   have hjj : j' - j < ds.length := by omega
                   have h5 := hds (j' - j) _ (List.getElem?_eq_getElem hjj)
                   have hlt : j' - j < (a.eval x).cells.size := by omega
                   refine ⟨(a.eval x).cells[j' - j], ?_, ?_⟩
                   · rw [show k' * κ.sz + j' - (k' * κ.sz + j) = j' - j from by omega, Array.getElem?_toList, Array.getElem?_eq_getElem hlt]
                   · simp only [Array.getD_eq_getD_getElem?, Array.getElem?_eq_getElem hlt, Option.getD_some] at h5
                     rw [List.getD_eq_getElem?_getD, List.getElem?_eq_getElem hjj]
                     exact h5.mono hce (fun _ _ x => x)
                 · rw [if_neg (by omega), if_neg hin]
                   exact ⟨c0, hc1, hc2.mono hce (fun _ _ x => x)⟩
               · have hnin : ¬ (k * κ.sz + j ≤ k' * κ.sz + j' ∧ k' * κ.sz + j' < k * κ.sz + j + i.size) := by
                  rcases Nat.lt_or_gt_of_ne hkk' with hlt | hgt
                  · have : (k' + 1) * κ.sz ≤ k * κ.sz := Nat.mul_le_mul_right _ hlt
                    rw [Nat.add_mul] at this; omega
                  · have : (k + 1) * κ.sz ≤ k' * κ.sz := Nat.mul_le_mul_right _ hgt
                    rw [Nat.add_mul] at this; omega
                 rw [if_neg hnin]
                 have hg : (l.set k y).getD k' κ.dflt = l.getD k' κ.dflt := by simp [List.getD_eq_getElem?_getD, List.getElem?_set_ne (fun e => hkk' e.symm)]
                 refine ⟨c0, hc1, ?_⟩
                 simp only [cellOf, hg]
                 exact hc2.mono hce (fun _ _ x => x)
     · exact hst.elim
end
end Vg

namespace Vg
open Go
section
variable {P : Program} {τ : Tys} {Im Im' : Nat → Nat → Prop} {ρ ρ' : Rho} {h h' : Array Obj} {w w' : World}
variable {w0 : World} {G : GP} {Im0 : Nat → Nat → Prop} {S : AState} {a : Act} {n : Nat} {tm : Nat → AV} {blk : Nat → Option Blk}
theorem Rel.mem {b0 : Nat} (hR : Rel w0 G Im0 ⟨n, tm, blk⟩ ρ Im a w) (hlt : b0 < w.heap.size) (hown : G b0 ∨ w0.heap.size ≤ b0) (hfree : ∀ j s x, blk j ≠ none → ρ j = some s → s.has x → x ≠ b0)
 (hk : ∀ k, k ≠ b0 → w'.heap[k]? = w.heap[k]?) (hIm : ∀ o, Im b0 o → hcell w'.heap b0 o = hcell w.heap b0 o) (hg : w.heap.size ≤ w'.heap.size) (ho : w'.os = w.os) (htp : w'.tape = w.tape) (hout : w'.output = w.output)
 (hI : ∀ b o, Im b o → Im' b o) (hI' : ∀ b o, Im' b o → Im b o ∨ b = b0) : Rel w0 G Im0 ⟨n, tm, blk⟩ ρ Im' a w' := by
 have hc : ∀ b o, Im b o → hcell w'.heap b o = hcell w.heap b o := fun b o h1 => by
  by_cases e : b = b0
  · subst e; exact hIm o h1
  · exact hcell_of_block (hk b e) o
 refine ⟨hR.defers, hR.size, fun t => (hR.tm t).mono hc hI, ⟨fun i b hB => ?_, hR.env.inj, hR.env.fpNe, fun i s x hi hs hx => Nat.lt_of_lt_of_le (hR.env.fpLt i s x hi hs hx) hg, fun i s x o hi hs hx h1 => ?_, fun b o h1 => ?_, fun i b s o hB hs => ?_⟩,
  ⟨hR.ext.own, fun b o h1 => hI b o (hR.ext.im0 b o h1), fun b o h1 => ?_, fun b o h1 => ?_, fun c hc' hG => ?_, Nat.le_trans hR.ext.grow hg, ho.trans hR.ext.os, htp.trans hR.ext.tape, hout.trans hR.ext.output, hR.ext.pin⟩⟩
 · exact (hR.env.bl i b hB).mono (fun s x hs hx => hk _ (hfree i s x (by change blk i = some b at hB; simp [hB]) hs hx)) hc hI
 · rcases hI' x o h1 with h2 | h2
   · exact hR.env.fpIm i s x o hi hs hx h2
   · exact hfree i s x hi hs (.inr hx) h2
 · rcases hI' b o h1 with h2 | h2
   · exact Nat.lt_of_lt_of_le (hR.env.imlt b o h2) hg
   · subst h2; omega
 · have hne := hfree i s s.b (by change blk i = some b at hB; simp [hB]) hs (.inl rfl)
   rw [← hR.env.imOwn i b s o hB hs]
   exact ⟨fun h1 => (hI' _ _ h1).resolve_right hne, fun h1 => hI _ _ h1⟩
 · rcases hI' b o h1 with h2 | h2
   · exact hR.ext.imNew b o h2
   · subst h2; exact .inr hown
 · rw [hc b o (hR.ext.im0 b o h1)]; exact hR.ext.keep b o h1
 · have hne : c ≠ b0 := fun e => by
    subst e
    rcases hown with h2 | h2
    · exact hG h2
    · omega
   rw [hk c hne]; exact hR.ext.frame c hc' hG
theorem listOf_ok {κ : K} {v : AV} {u : Value} {m : List κ.T} (hl : listOf S.blk κ v = some m) (hR : Rel w0 G Im0 S ρ Im a w) (hv : AVR ρ w.heap Im v u) :
 ∃ ad c, u = .slice ad m.length c ∧ (m.length ≠ 0 → ∃ (b o : Nat) (news : List Value), ad = some ⟨b, o, none⟩ ∧ news.length = m.length * κ.sz ∧
  (∀ j x, news[j]? = some x → w.cell? ((⟨b, o, none⟩ : Addr).add j) = some x) ∧ (∀ x ∈ news, x.oneCell' = true) ∧
  ∀ k j, k < m.length → j < κ.sz → ∃ c, news[k * κ.sz + j]? = some c ∧ RepD w.heap Im (cellOf κ m k j) c) := by
 have mk : ∀ (b o : Nat) (cf : Nat → Nat → Value), (∀ k j, k < m.length → j < κ.sz → hcell w.heap b (o + k * κ.sz + j) = some (cf k j)) →
  (∀ k j, k < m.length → j < κ.sz → RepD w.heap Im (cellOf κ m k j) (cf k j)) → ∃ news : List Value, news.length = m.length * κ.sz ∧
  (∀ j x, news[j]? = some x → w.cell? ((⟨b, o, none⟩ : Addr).add j) = some x) ∧ (∀ x ∈ news, x.oneCell' = true) ∧
  ∀ k j, k < m.length → j < κ.sz → ∃ c, news[k * κ.sz + j]? = some c ∧ RepD w.heap Im (cellOf κ m k j) c := by
  intro b o cf hc hr
  have hpos := κ.sz_pos
  have hdm : ∀ x, x < m.length * κ.sz → x / κ.sz < m.length ∧ x % κ.sz < κ.sz ∧ x / κ.sz * κ.sz + x % κ.sz = x := fun x hx =>
   ⟨(Nat.div_lt_iff_lt_mul hpos).2 hx, Nat.mod_lt _ hpos, by rw [Nat.mul_comm]; exact Nat.div_add_mod x κ.sz⟩
  refine ⟨(List.range (m.length * κ.sz)).map fun x => cf (x / κ.sz) (x % κ.sz), by simp, fun j x hx => ?_, fun x hx => ?_, fun k j hk hj => ?_⟩
  · rw [List.getElem?_map] at hx
    by_cases hj : j < m.length * κ.sz
    · rw [List.getElem?_range hj] at hx
      simp at hx
      obtain ⟨h1, h2, h3⟩ := hdm j hj
      rw [Addr.add_some, cell?_eq, ← hx, ← hc _ _ h1 h2, Nat.add_assoc, h3]
    · rw [List.getElem?_eq_none (by simpa using hj)] at hx; simp at hx
  · obtain ⟨y, hy, rfl⟩ := List.mem_map.1 hx
    obtain ⟨h1, h2, _⟩ := hdm y (List.mem_range.1 hy)
    exact (hr _ _ h1 h2).one
  · have hlt : k * κ.sz + j < m.length * κ.sz := by
     have : (k + 1) * κ.sz ≤ m.length * κ.sz := Nat.mul_le_mul_right _ hk
     rw [Nat.add_mul] at this; omega
    refine ⟨cf k j, ?_, hr k j hk hj⟩
    rw [List.getElem?_map, List.getElem?_range hlt]
    have e1 : (k * κ.sz + j) / κ.sz = k := by
     rw [Nat.mul_comm, Nat.mul_add_div hpos, Nat.div_eq_of_lt hj]; rfl
    have e2 : (k * κ.sz + j) % κ.sz = j := by rw [Nat.mul_comm, Nat.mul_add_mod, Nat.mod_eq_of_lt hj]
    simp [e1, e2]
 cases v with
 | dat d =>
  cases d with
  | seq κ' l =>
   simp only [listOf] at hl
   by_cases e : κ' = κ
   · subst e
     simp at hl
     subst hl
     obtain ⟨ad, c, rfl, _, hrest⟩ := (dat_seq hv).seq_view
     refine ⟨ad, c, rfl, fun h0 => ?_⟩
     obtain ⟨b, o, cf, rfl, _, _, _, hc, hr⟩ := hrest h0
     obtain ⟨news, h1, h2, h3, h4⟩ := mk b o cf hc hr
     exact ⟨b, o, news, rfl, h1, h2, h3, h4⟩
   · simp [e] at hl
  | _ => simp [listOf] at hl
 | nils =>
  simp [listOf] at hl
  subst hl
  obtain rfl := nils_val hv
  exact ⟨none, 0, rfl, fun h0 => absurd rfl h0⟩
 | row i =>
  simp only [listOf] at hl
  cases hB : S.blk i with
  | none => simp [hB] at hl
  | some bb =>
   cases bb with
   | mp => simp [hB] at hl
   | box => simp [hB] at hl
   | tree => simp [hB] at hl
   | row T κ' l sh =>
    simp only [hB] at hl
    by_cases e : κ' = κ
    · subst e
      simp at hl
      subst hl
      have hb := hR.env.bl i _ hB
      cases hv with
      | row _ r hi =>
       simp only [BlkR, hi] at hb
       obtain ⟨h1, h2, h3, cs, T0, hh, hsz, hcs⟩ := hb
       refine ⟨_, _, by rw [h1], fun h0 => ?_⟩
       obtain ⟨news, h5, h6, h7, h8⟩ := mk r.b 0 (fun k j => cs.getD (k * κ'.sz + j) undef) (fun k j hk hj => by
        obtain ⟨c, hc1, _⟩ := hcs k j hk hj
        simp [hcell, hh, hc1]) (fun k j hk hj => by
        obtain ⟨c, hc1, hc2⟩ := hcs k j hk hj
        simpa [hc1] using hc2)
       exact ⟨r.b, 0, news, rfl, h5, h6, h7, h8⟩
      | rowN _ hi =>
       simp only [BlkR, hi] at hb
       exact ⟨none, 0, by rw [hb], fun h0 => absurd hb h0⟩
    · simp [e] at hl
 | _ => simp [listOf] at hl
theorem run_append_room' (w : World) (t ty e T0 : TypeId) (i : TypeInfo) (ht : P.underlying t = some (.slice e)) (hi : P.info? e = some i)
 (g sLen sCap : Nat) (cur : Array Value) (hg : w.heap[g]? = some (.cells cur T0 (0, 0)))
 (a : Addr) (m c : Nat) (news : List Value) (hl : news.length = m * i.size) (hnews : ∀ j u, news[j]? = some u → w.cell? (a.add j) = some u) (h1 : ∀ u ∈ news, u.oneCell' = true)
 (hroom : sLen + m ≤ sCap) (hfit : sLen * i.size + news.length ≤ cur.size) :
 (Builtin.append_ #[t, t] ty #[.slice (some ⟨g, 0, none⟩) sLen sCap, .slice (some a) m c]).run P w =
  .ok (.slice (some ⟨g, 0, none⟩) (sLen + m) sCap) (w.setRow g (cur.toList.take (sLen * i.size) ++ news ++ cur.toList.drop (sLen * i.size + news.length)).toArray) := by
 have hf := run_firstCells_some (P := P) w i.size m a m c news hl hnews
 have hst := run_storeCells_at P g (sLen * i.size) T0 news 0 cur w hg (by simpa using hfit) h1
 simp only [Nat.add_zero] at hst
 simp [Builtin.append_, run_underlying ht, Go.sizeOf, Go.typeInfo, hi, Builtin.lenOf, hroom, hf, Addr.add_lit, hst]
theorem run_append_none {T E : Nat} {i : TyI} (hT : P.underlying T = some (.slice E)) (hE : TyOk P E i) (ty : Nat) (base : Option Addr) (hbase : ∀ x, base = some x → x.spot = none) (len cap : Nat) (hlc : len ≤ cap) (ad : Option Addr) (c : Nat) :
 (Builtin.append_ #[T, T] ty #[.slice base len cap, .slice ad 0 c]).run P w = .ok (.slice base len cap) w := by
 have hf : (Builtin.firstCells i.size 0 (.slice ad 0 c)).run P w = .ok #[] w := by
  cases ad <;> simp [Builtin.firstCells, loadCells, loadCellsFrom]
 cases base with
 | none => simp [Builtin.append_, run_und hT, run_sizeOf hE, Builtin.lenOf, hlc, hf]
 | some x => simp [Builtin.append_, run_und hT, run_sizeOf hE, Builtin.lenOf, hlc, hf, storeCells]
end
end Vg

namespace Vg
open Go
section
variable {P : Program} {τ : Tys} {Im Im' : Nat → Nat → Prop} {ρ ρ' : Rho} {h h' : Array Obj} {w w' : World}
variable {w0 : World} {G : GP} {Im0 : Nat → Nat → Prop} {S : AState} {a : Act} {n : Nat} {tm : Nat → AV} {blk : Nat → Option Blk}
def Reads (h : Array Obj) (Im : Nat → Nat → Prop) (κ : K) (l : List κ.T) (cs : List Value) : Prop :=
 ∀ k j, k < l.length → j < κ.sz → ∃ c, cs[k * κ.sz + j]? = some c ∧ RepD h Im (cellOf κ l k j) c
theorem idx_lt {n sz k j : Nat} (hk : k < n) (hj : j < sz) : k * sz + j < n * sz := by
 have : (k + 1) * sz ≤ n * sz := Nat.mul_le_mul_right _ hk
 rw [Nat.add_mul] at this; omega
theorem Reads.append {κ : K} {l m : List κ.T} {os ns : List Value} (ho : os.length = l.length * κ.sz) (h1 : Reads h Im κ l os) (h2 : Reads h Im κ m ns) (rest : List Value) :
 Reads h Im κ (l ++ m) (os ++ ns ++ rest) := by
 intro k j hk hj
 simp only [List.length_append] at hk
 by_cases hkl : k < l.length
 · obtain ⟨c, hc1, hc2⟩ := h1 k j hkl hj
   have := idx_lt hkl hj
   refine ⟨c, by rw [List.append_assoc, List.getElem?_append_left (by omega)]; exact hc1, ?_⟩
   have e : (l ++ m).getD k κ.dflt = l.getD k κ.dflt := by simp [List.getD_eq_getElem?_getD, List.getElem?_append_left hkl]
   simp only [cellOf, e]; exact hc2
 · obtain ⟨c, hc1, hc2⟩ := h2 (k - l.length) j (by omega) hj
   have hle := Nat.mul_le_mul_right κ.sz (Nat.le_of_not_lt hkl)
   have e0 : k * κ.sz + j - os.length = (k - l.length) * κ.sz + j := by rw [ho, Nat.sub_mul]; omega
   have hlt := (List.getElem?_eq_some_iff.1 hc1).1
   refine ⟨c, by rw [List.append_assoc, List.getElem?_append_right (by omega), e0, List.getElem?_append_left hlt]; exact hc1, ?_⟩
   have e : (l ++ m).getD k κ.dflt = m.getD (k - l.length) κ.dflt := by simp [List.getD_eq_getElem?_getD, List.getElem?_append_right (Nat.le_of_not_lt hkl)]
   simp only [cellOf, e]; exact hc2
theorem Rel.grown (hR : Rel w0 G Im0 ⟨n, tm, blk⟩ ρ Im a w) {t E cap : Nat} {κ : K} {l : List κ.T} {sh : Bool} (ht : t < n ∧ t < 900000) {cs : Array Value} (hh : w'.heap = w.heap.push (.cells cs E))
 (ho : w'.os = w.os) (htp : w'.tape = w.tape) (hout : w'.output = w.output) (hcap : l.length ≤ cap) (hmax : cap ≤ maxLen) (hsz : cap * κ.sz ≤ cs.size) (hc : Reads w.heap Im κ l cs.toList) :
 RelE w0 G Im0 ⟨n, updT (killT tm t) t (.row t), updB (killB blk t) t (some (.row E κ l sh))⟩ (a.put (some t) (.slice (some ⟨w.heap.size, 0, none⟩) l.length cap)) w' := by
 have key := hR.newRow (E := E) ht hh ho htp hout hcap hmax hsz (fun k j hk hj => by
  obtain ⟨c, h1, h2⟩ := hc k j hk hj
  exact ⟨c, by simpa using h1, h2⟩)
 cases sh with
 | false => exact ⟨_, _, key⟩
 | true =>
  obtain ⟨Im', h1, _⟩ := key.freeze (updB_same _ _ _)
  have e : updB (updB (killB blk t) t (some (.row E κ l false))) t (some (.row E κ l true)) = updB (killB blk t) t (some (.row E κ l true)) := by
   funext j
   by_cases hj : j = t
   · subst hj; rw [updB_same, updB_same]
   · rw [updB_ne _ hj, updB_ne _ hj, updB_ne _ hj]
  rw [e] at h1
  exact ⟨_, Im', h1⟩
theorem Rel.nilRow (hR : Rel w0 G Im0 ⟨n, tm, blk⟩ ρ Im a w) {t E : Nat} {κ : K} {l : List κ.T} {sh : Bool} (ht : t < n ∧ t < 900000) (hl : l.length = 0) :
 RelE w0 G Im0 ⟨n, updT (killT tm t) t (.row t), updB (killB blk t) t (some (.row E κ l sh))⟩ (a.put (some t) (.slice none 0 0)) w := by
 have h2 := hR.kill (ρ' := updR ρ t none) (i := t) (fun j hj => updR_ne _ hj)
 refine ⟨_, _, Rel.put (h2.ins (b := .row E κ l sh) (killB_same _ _) ?_ (fun r o hr => ?_) (fun r hr => ?_) (fun r j s x hr => ?_) (fun r x hr => ?_) (fun p hp => by rw [G.lt t ht.2] at hp; cases hp)) ht.1 (.rowN t (updR_same _ _ _))⟩
 · simp only [BlkR, updR_same]; exact hl
 · rw [updR_same] at hr; cases hr
 · rw [updR_same] at hr; cases hr
 · rw [updR_same] at hr; cases hr
 · rw [updR_same] at hr; cases hr
theorem Rel.moved (hR : Rel w0 G Im0 ⟨n, tm, blk⟩ ρ Im a w) {t E cap b0 T0 : Nat} {κ : K} {l : List κ.T} {sh : Bool} {cs : Array Value} {q : Nat} (ht : t < n ∧ t < 900000) (hlt : b0 < w.heap.size)
 (hown : G b0 ∨ w0.heap.size ≤ b0) (hfree : ∀ j s x, blk j ≠ none → ρ j = some s → s.has x → x ≠ b0)
 (hk : ∀ k, k ≠ b0 → w'.heap[k]? = w.heap[k]?) (hIm : ∀ o, Im b0 o → hcell w'.heap b0 o = hcell w.heap b0 o) (hg : w.heap.size ≤ w'.heap.size) (ho : w'.os = w.os) (htp : w'.tape = w.tape) (hout : w'.output = w.output)
 (hpin : ∀ o, Im b0 o ↔ (sh = true ∧ o < q)) (hq : q ≤ l.length * κ.sz)
 (hcap : l.length ≤ cap) (hmax : cap ≤ maxLen) (hh : w'.heap[b0]? = some (.cells cs T0 (0, 0))) (hsz : cap * κ.sz ≤ cs.size) (hc : Reads w.heap Im κ l cs.toList) :
 RelE w0 G Im0 ⟨n, updT (killT tm t) t (.row t), updB (killB blk t) t (some (.row E κ l sh))⟩ (a.put (some t) (.slice (some ⟨b0, 0, none⟩) l.length cap)) w' := by
 have main : ∀ Im' : Nat → Nat → Prop, (∀ b o, Im b o → Im' b o) → (∀ b o, Im' b o → Im b o ∨ b = b0) → (∀ o, Im' b0 o ↔ o < (Blk.row E κ l sh).pinned) →
  RelE w0 G Im0 ⟨n, updT (killT tm t) t (.row t), updB (killB blk t) t (some (.row E κ l sh))⟩ (a.put (some t) (.slice (some ⟨b0, 0, none⟩) l.length cap)) w' := by
  intro Im' hI hI' hp
  have h1 := hR.mem (w' := w') (Im' := Im') hlt hown hfree hk hIm hg ho htp hout hI hI'
  have hce : ∀ b o, Im b o → hcell w'.heap b o = hcell w.heap b o := fun b o hb => by
   by_cases e : b = b0
   · subst e; exact hIm o hb
   · exact hcell_of_block (hk b e) o
  have h2 := h1.kill (ρ' := updR ρ t (some (.at b0 cap l.length))) (i := t) (fun j hj => updR_ne _ hj)
  refine ⟨_, _, Rel.put (h2.ins (b := .row E κ l sh) (killB_same _ _) ?_ (fun r o hr => ?_) (fun r hr => ?_) (fun r j s x hr hj hs hx hy => ?_) (fun r x hr hx => ?_) (fun p hp => by rw [G.lt t ht.2] at hp; cases hp)) ht.1 (.row t (.at b0 cap l.length) (updR_same _ _ _))⟩
  · simp only [BlkR, updR_same]
    refine ⟨trivial, hcap, hmax, cs, T0, hh, hsz, fun k j hk' hj => ?_⟩
    obtain ⟨c, hc1, hc2⟩ := hc k j hk' hj
    exact ⟨c, by simpa using hc1, hc2.mono hce hI⟩
  · rw [updR_same] at hr; cases hr; exact hp o
  · rw [updR_same] at hr; cases hr; exact ⟨fun h => h, fun x h => h.elim⟩
  · rw [updR_same] at hr; cases hr
    have hne : j ≠ t := fun e => by subst e; exact hj (killB_same _ _)
    rw [updR_ne _ hne] at hs
    refine hfree j s x (fun e => hj ?_) hs hx (hy.resolve_right (fun h => h))
    rw [killB_ne hne, e]; rfl
  · rw [updR_same] at hr; cases hr
    have e : x = b0 := hx.resolve_right (fun h => h)
    rw [e]; exact hown
 cases sh with
 | false =>
  refine main Im (fun _ _ x => x) (fun _ _ x => .inl x) (fun o => ?_)
  rw [hpin]; simp [Blk.pinned]
 | true =>
  refine main (freezeIm Im b0 (l.length * κ.sz)) (fun _ _ x => .inl x) (fun b o x => x.imp id And.left) (fun o => ?_)
  simp only [freezeIm, Blk.pinned, true_and]
  refine ⟨fun h1 => h1.elim (fun h2 => ?_) id, .inr⟩
  have := ((hpin o).1 h2).2
  omega
theorem rslice_ok (hτ : TysOk P τ) {o : Oper} {T id : Nat} {x : Operand} {lo hi : Option Operand} {K : AState → Prop} (hop : o.op = .slice T x lo hi none) (hx : ev S x = .row id)
 (h : rslice τ S o.dst T id (lo.map (ev S)) (hi.map (ev S)) K)
 (hR : Rel w0 G Im0 S ρ Im a w) {next : Act → World → Prop} {Q : Exit → Act → World → Prop}
 (hn : ∀ S' a' w', K S' → RelE w0 G Im0 S' a' w' → next a' w') : o.wp P a w next Q := by
 unfold rslice at h
 cases lo with
 | some y => cases o.dst <;> simp at h
 | none =>
 cases hi with
 | none => cases o.dst <;> simp at h
 | some y =>
 simp only [Option.map_none, Option.map_some] at h
 cases hdst : o.dst with
 | none => simp [hdst] at h
 | some t =>
 cases e2 : ev S y <;> simp only [hdst, e2] at h <;> try exact h.elim
 rename_i dd
 cases dd <;> simp only at h <;> try exact h.elim
 rename_i k u
 split at h
 case h_2 => exact h.elim
 rename_i E κ l i hB hT
 cases hd : i.desc <;> simp only [hd] at h <;> try exact h.elim
 rename_i E' κ'
 cases hE : τ E' with
 | none => simp [hE] at h
 | some ie =>
 simp only [hE] at h
 obtain ⟨⟨hu1, hu2⟩, hnew⟩ := h
 obtain ⟨d, hdd, _, hdesc⟩ := (hτ T i hT).und
 rw [hd] at hdesc
 simp only at hdesc
 subst hdesc
 have hxv := ev_rel hR x
 rw [hx] at hxv
 have hyv := ev_rel hR y
 rw [e2] at hyv
 have hye := dat_int hyv
 have hel : P.underlying T = some (.slice (P.elem T)) := by rw [elem_eq hdd]; exact hdd
 have hso : (Go.sizeOf (P.elem T)).run P w = .ok ie.size w := by rw [elem_eq hdd]; exact run_sizeOf (hτ E' ie hE) w
 have hst : ∀ v lo hi, (Instr.sliceAt T v lo hi none).run P w = (Instr.slice T v lo hi none).run P w := fun v lo hi => run_sliceAt_slice w T v lo hi none hel
 have htl : ((l.take u.toNat).length : Nat) = u.toNat := by simp; omega
 have fin : ∀ {v : Value} {S' : AState}, (Instr.sliceAt T (a.eval x) none (some (a.eval y)) none).run P w = .ok v w → K S' → RelE w0 G Im0 S' (a.put (some t) v) w → o.wp P a w next Q := by
  intro v S' hr hK hrel
  have : (execOp a.eval o).run P w = .ok (.value v) w := by
   simp only [execOp, hop, Sem.run_bind, Option.map_none, Option.map_some]; rw [hr]; rfl
  unfold Oper.wp
  rw [this]
  simp only [Oper.upon, hdst]
  exact hn _ _ _ hK hrel
 obtain ⟨n, tm, blk⟩ := S
 simp only [AState.kill] at hnew
 obtain ⟨n', tm', blk', hSe, ht, hK⟩ := new_ok hnew
 cases hSe
 have hbl := hR.env.bl id _ hB
 have hRk := hR.kill (i := id) (ρ' := ρ) (fun _ _ => rfl)
 generalize hue : a.eval x = v at hxv
 cases hxv with
 | rowN _ hi =>
  simp only [BlkR, hi] at hbl
  have h0 : u = 0 := by omega
  subst h0
  refine fin ?_ hK (hRk.nilRow ht (by rw [htl]; rfl))
  rw [hue, hye, hst, run_slice_h w T none 0 0 hel k 0 (by omega) (by omega), hso]
  rfl
 | row _ r hi =>
  simp only [BlkR, hi] at hbl
  obtain ⟨hl1, hl2, hl3, cur, T0, hh, hcsz, hcc⟩ := hbl
  have hlt : r.b < w.heap.size := (Array.getElem?_eq_some_iff.1 hh).1
  have hownr := hR.ext.own id r r.b (by change blk id ≠ none; change blk id = _ at hB; simp [hB]) hi (.inl rfl)
  have hfree : ∀ j s x, killB blk id j ≠ none → ρ j = some s → s.has x → x ≠ r.b := fun j s x hj hs hx e => by
   have hne : j ≠ id := fun e => by subst e; exact hj (killB_same _ _)
   refine hne (hR.env.inj j id s r x (fun e' => hj ?_) (by change blk id ≠ none; change blk id = _ at hB; simp [hB]) hs hi hx (.inl e))
   change blk j = none at e'
   rw [killB_ne hne, e']; rfl
  have hpin : ∀ o, Im r.b o ↔ (false = true ∧ o < 0) := fun o => by
   rw [hR.env.imOwn id _ r o hB hi]
   simp [Blk.pinned]
  have hrun : (Instr.sliceAt T (a.eval x) none (some (a.eval y)) none).run P w = .ok (.slice (some ⟨r.b, 0, none⟩) (l.take u.toNat).length r.cap) w := by
   rw [hue, hye, hst, run_slice_h w T _ r.len r.cap hel k u hu1 (by omega), hso, htl]
   simp [sliced, Addr.add_some]
  refine fin hrun hK (hRk.moved (w' := w) (q := 0) ht hlt hownr hfree (fun _ _ => rfl) (fun _ _ => rfl) (Nat.le_refl _) rfl rfl rfl hpin (by omega) (by rw [htl]; omega) hl3 hh hcsz (fun j j' hj hj' => ?_))
  obtain ⟨c, hc1, hc2⟩ := hcc j j' (by omega) hj'
  refine ⟨c, by simpa using hc1, ?_⟩
  have e : cellOf κ (l.take u.toNat) j j' = cellOf κ l j j' := by
   unfold cellOf
   have e1 : (l.take u.toNat).getD j κ.dflt = l.getD j κ.dflt := by
    rw [List.getD_eq_getElem?_getD, List.getD_eq_getElem?_getD, List.getElem?_take_of_lt (by omega)]
   rw [e1]
  rw [e]; exact hc2
theorem rslice3_ok (hτ : TysOk P τ) {o : Oper} {T id : Nat} {x : Operand} {y y3 : Operand} {K : AState → Prop} (hop : o.op = .slice T x none (some y) (some y3)) (hx : ev S x = .row id)
 (h : rslice3 τ S o.dst T id (ev S y) (ev S y3) K)
 (hR : Rel w0 G Im0 S ρ Im a w) {next : Act → World → Prop} {Q : Exit → Act → World → Prop}
 (hn : ∀ S' a' w', K S' → RelE w0 G Im0 S' a' w' → next a' w') : o.wp P a w next Q := by
 unfold rslice3 at h
 split at h
 case h_2 => exact h.elim
 rename_i t k u k3 u3 hdst e2 e3
 split at h
 case h_2 => exact h.elim
 rename_i E κ l i hB hT
 cases hd : i.desc <;> simp only [hd] at h <;> try exact h.elim
 rename_i E' κ'
 cases hE : τ E' with
 | none => simp [hE] at h
 | some ie =>
 simp only [hE] at h
 obtain ⟨⟨hu1, hu2, hu3⟩, hnew⟩ := h
 obtain ⟨d, hdd, _, hdesc⟩ := (hτ T i hT).und
 rw [hd] at hdesc
 simp only at hdesc
 subst hdesc
 have hxv := ev_rel hR x
 rw [hx] at hxv
 have hyv := ev_rel hR y
 rw [e2] at hyv
 have hye := dat_int hyv
 have hyv3 := ev_rel hR y3
 rw [e3] at hyv3
 have hye3 := dat_int hyv3
 have hel : P.underlying T = some (.slice (P.elem T)) := by rw [elem_eq hdd]; exact hdd
 have hso : (Go.sizeOf (P.elem T)).run P w = .ok ie.size w := by rw [elem_eq hdd]; exact run_sizeOf (hτ E' ie hE) w
 have hst : ∀ v lo hi, (Instr.sliceAt T v lo hi (some (a.eval y3))).run P w = (Instr.slice T v lo hi (some (a.eval y3))).run P w := fun v lo hi => run_sliceAt_slice w T v lo hi _ hel
 have htl : ((l.take u.toNat).length : Nat) = u.toNat := by simp; omega
 have fin : ∀ {v : Value} {S' : AState}, (Instr.sliceAt T (a.eval x) none (some (a.eval y)) (some (a.eval y3))).run P w = .ok v w → K S' → RelE w0 G Im0 S' (a.put (some t) v) w → o.wp P a w next Q := by
  intro v S' hr hK hrel
  have : (execOp a.eval o).run P w = .ok (.value v) w := by
   simp only [execOp, hop, Sem.run_bind, Option.map_none, Option.map_some]; rw [hr]; rfl
  unfold Oper.wp
  rw [this]
  simp only [Oper.upon, hdst]
  exact hn _ _ _ hK hrel
 obtain ⟨n, tm, blk⟩ := S
 simp only [AState.kill] at hnew
 obtain ⟨n', tm', blk', hSe, ht, hK⟩ := new_ok hnew
 cases hSe
 have hbl := hR.env.bl id _ hB
 have hRk := hR.kill (i := id) (ρ' := ρ) (fun _ _ => rfl)
 generalize hue : a.eval x = v at hxv
 cases hxv with
 | rowN _ hi =>
  simp only [BlkR, hi] at hbl
  have h0 : u = 0 := by omega
  subst h0
  refine fin ?_ hK (hRk.nilRow ht (by rw [htl]; rfl))
  have h3 : u3 = 0 := by omega
  subst h3
  rw [hue, hst, hye, hye3, run_slice_hm w T none 0 0 hel k k3 0 0 (by omega) (by omega) (by omega), hso]
  rfl
 | row _ r hi =>
  simp only [BlkR, hi] at hbl
  obtain ⟨hl1, hl2, hl3, cur, T0, hh, hcsz, hcc⟩ := hbl
  have hlt : r.b < w.heap.size := (Array.getElem?_eq_some_iff.1 hh).1
  have hownr := hR.ext.own id r r.b (by change blk id ≠ none; change blk id = _ at hB; simp [hB]) hi (.inl rfl)
  have hfree : ∀ j s x, killB blk id j ≠ none → ρ j = some s → s.has x → x ≠ r.b := fun j s x hj hs hx e => by
   have hne : j ≠ id := fun e => by subst e; exact hj (killB_same _ _)
   refine hne (hR.env.inj j id s r x (fun e' => hj ?_) (by change blk id ≠ none; change blk id = _ at hB; simp [hB]) hs hi hx (.inl e))
   change blk j = none at e'
   rw [killB_ne hne, e']; rfl
  have hpin : ∀ o, Im r.b o ↔ (false = true ∧ o < 0) := fun o => by
   rw [hR.env.imOwn id _ r o hB hi]
   simp [Blk.pinned]
  have hrun : (Instr.sliceAt T (a.eval x) none (some (a.eval y)) (some (a.eval y3))).run P w = .ok (.slice (some ⟨r.b, 0, none⟩) (l.take u.toNat).length u3.toNat) w := by
   rw [hue, hst, hye, hye3, run_slice_hm w T _ r.len r.cap hel k k3 u u3 hu1 hu2 (by omega), hso, htl]
   simp [sliced, Addr.add_some]
  refine fin hrun hK (hRk.moved (w' := w) (q := 0) ht hlt hownr hfree (fun _ _ => rfl) (fun _ _ => rfl) (Nat.le_refl _) rfl rfl rfl hpin (by omega) (by rw [htl]; omega) (by omega) hh (Nat.le_trans (Nat.mul_le_mul_right _ (by omega)) hcsz) (fun j j' hj hj' => ?_))
  obtain ⟨c, hc1, hc2⟩ := hcc j j' (by omega) hj'
  refine ⟨c, by simpa using hc1, ?_⟩
  have e : cellOf κ (l.take u.toNat) j j' = cellOf κ l j j' := by
   unfold cellOf
   have e1 : (l.take u.toNat).getD j κ.dflt = l.getD j κ.dflt := by
    rw [List.getD_eq_getElem?_getD, List.getD_eq_getElem?_getD, List.getElem?_take_of_lt (by omega)]
   rw [e1]
  rw [e]; exact hc2
theorem run_append_op {o : Oper} {x y : Operand} {T : Nat} {v : Value} (hop : o.op = .call { callee := .builtin .append, args := #[x, y], argTypes := #[T, T] })
 (hr : (Builtin.append_ #[T, T] o.type #[a.eval x, a.eval y]).run P w = .ok v w') : (execOp a.eval o).run P w = .ok (.value v) w' := by
 simp [execOp, hop, resolve, invoke, builtin, hr]
theorem aappend_ok (hτ : TysOk P τ) {o : Oper} {T : Nat} {x y : Operand} {K : AState → Prop} (hop : o.op = .call { callee := .builtin .append, args := #[x, y], argTypes := #[T, T] })
 (h : aappend τ S o.dst T (ev S x) (ev S y) K)
 (hR : Rel w0 G Im0 S ρ Im a w) {next : Act → World → Prop} {Q : Exit → Act → World → Prop}
 (hn : ∀ S' a' w', K S' → RelE w0 G Im0 S' a' w' → next a' w') : o.wp P a w next Q := by
 unfold aappend at h
 have hxv := ev_rel hR x
 have hyv := ev_rel hR y
 cases hdst : o.dst with
 | none => simp [hdst] at h
 | some t =>
  cases hT : τ T with
  | none => simp [hdst, hT] at h
  | some i =>
   simp only [hdst, hT] at h
   obtain ⟨d, hdd, _, hdesc⟩ := (hτ T i hT).und
   cases hd : i.desc <;> simp only [hd] at h hdesc <;> try exact h.elim
   rename_i E κ
   subst hdesc
   cases hTE : τ E with
   | none => simp [hTE] at h
   | some ie =>
    simp only [hTE] at h
    cases hs : Nat.beq ie.size κ.sz with
    | false => simp [hs] at h
    | true =>
     simp only [hs] at h
     have hsz : ie.size = κ.sz := Nat.eq_of_beq_eq_true hs
     cases hm : listOf S.blk κ (ev S y) with
     | none => simp [hm] at h
     | some m =>
      simp only [hm] at h
      obtain ⟨ad, c, hye, hnews⟩ := listOf_ok hm hR hyv
      obtain ⟨xi, z, hxi, hxs, hxb, hxz, hzc⟩ := (hτ E ie hTE).info
      have hzsz : z.cells.size = κ.sz := by rw [hzc, List.size_toArray, (hτ E ie hTE).zsz, hsz]
      have hpos : 0 < κ.sz := κ.sz_pos
      have fin : ∀ {v : Value} {w' : World} {S' : AState}, (Builtin.append_ #[T, T] o.type #[a.eval x, a.eval y]).run P w = .ok v w' → K S' → RelE w0 G Im0 S' (a.put (some t) v) w' → o.wp P a w next Q := by
       intro v w' S' hr hK hrel
       unfold Oper.wp
       rw [run_append_op hop hr]
       simp only [Oper.upon, hdst]
       exact hn _ _ _ hK hrel
      have nil_case : ∀ {S1 : AState} {n tm blk} {l : List κ.T} {sh : Bool}, a.eval x = .slice none 0 0 → l.length = 0 → S1 = ⟨n, tm, blk⟩ → (t < n ∧ t < 900000) → Rel w0 G Im0 ⟨n, tm, blk⟩ ρ Im a w →
       m.length * ie.bytes ≤ 140737488355328 → m.length ≤ maxLen → K ⟨n, updT (killT tm t) t (.row t), updB (killB blk t) t (some (.row E κ (l ++ m) sh))⟩ → o.wp P a w next Q := by
       intro S1 n tm blk l sh hxe hl0 _ ht hR1 hb1 hb2 hK
       have hl : l = [] := List.eq_nil_of_length_eq_zero hl0
       subst hl
       simp only [List.nil_append] at hK
       by_cases h0 : m.length = 0
       · refine fin ?_ hK (hR1.nilRow ht h0)
         rw [hxe, hye, h0]
         exact run_append_none hdd (hτ E ie hTE) o.type none (by simp) 0 0 (Nat.le_refl _) ad c
       · obtain ⟨b, o', news, rfl, hnl, hnc, hn1, hnr⟩ := hnews h0
         have hb63 : (m.length : Int) ≤ 9223372036854775807 := by unfold maxLen at hb2; omega
         have hrun := run_append_nil (P := P) w T o.type E xi z hdd hxi hxz ⟨b, o', none⟩ m.length c news (by rw [hnl, hxs, hsz]) hnc (by omega) hb63 (by rw [hxb]; omega)
         refine fin (by rw [hxe, hye]; exact hrun) hK (hR1.grown (w' := w.drew.alloc (.cells (news.toArray ++ Builtin.zeroCells z.cells (grownCap w m.length 0 E - m.length)) E)) (cs := news.toArray ++ Builtin.zeroCells z.cells (grownCap w m.length 0 E - m.length)) ht rfl rfl rfl rfl (grownCap_ge w _ 0 E) (grownCap_le_maxLen w _ 0 E hb2) ?_ ?_)
         · have := grownCap_ge w m.length 0 E
           refine Nat.le_of_eq (Eq.symm ?_)
           simp only [Array.size_append, List.size_toArray, size_zeroCells, hzsz, hnl, ← Nat.add_mul]
           congr 1; omega
         · have := Reads.append (l := []) (os := []) (m := m) (h := w.heap) (Im := Im) (κ := κ) (by simp) (fun k j hk => by simp at hk) hnr (Builtin.zeroCells z.cells (grownCap w m.length 0 E - m.length)).toList
           simpa using this
      split at h
      · -- nil
        rename_i hxe
        rw [hxe] at hxv
        obtain ⟨hb1, hb2, hnew⟩ := h
        obtain ⟨n, tm, blk, rfl, ht, hK⟩ := new_ok hnew
        exact nil_case (l := []) (sh := false) (nils_val hxv) rfl rfl ht hR hb1 hb2 (by simpa using hK)
      · -- a row
        rename_i id hxe
        rw [hxe] at hxv
        cases hB : S.blk id with
        | none => simp [hB] at h
        | some bb =>
         cases bb with
         | mp => simp [hB] at h
         | box => simp [hB] at h
         | tree => simp [hB] at h
         | row E' κ' l sh =>
          simp only [hB] at h
          cases hEE : Nat.beq E' E with
          | false => simp [hEE] at h
          | true =>
           simp only [hEE] at h
           have hE' : E' = E := Nat.eq_of_beq_eq_true hEE
           subst hE'
           by_cases hκ : κ' = κ
           · subst hκ
             simp only [dite_true] at h
             obtain ⟨⟨hb1, hb2⟩, hnew⟩ := h
             obtain ⟨n, tm, blk⟩ := S
             simp only [AState.kill] at hnew
             obtain ⟨n', tm', blk', hSe, ht, hK⟩ := new_ok hnew
             cases hSe
             have hbl := hR.env.bl id _ hB
             have hRk := hR.kill (i := id) (ρ' := ρ) (fun _ _ => rfl)
             have hu := hxv
             generalize hue : a.eval x = u at hu
             cases hu with
             | rowN _ hi =>
              simp only [BlkR, hi] at hbl
              refine nil_case (l := l) (sh := sh) hue hbl rfl ht hRk ?_ (by omega) hK
              have : m.length * ie.bytes ≤ (l.length + m.length) * ie.bytes := Nat.mul_le_mul_right _ (by omega)
              omega
             | row _ r hi =>
              simp only [BlkR, hi] at hbl
              obtain ⟨hl1, hl2, hl3, cur, T0, hh, hcsz, hcc⟩ := hbl
              have hlt : r.b < w.heap.size := (Array.getElem?_eq_some_iff.1 hh).1
              have hownr := hR.ext.own id r r.b (by change blk id ≠ none; change blk id = _ at hB; simp [hB]) hi (.inl rfl)
              have hfree : ∀ j s x, killB blk id j ≠ none → ρ j = some s → s.has x → x ≠ r.b := fun j s x hj hs hx e => by
               have hne : j ≠ id := fun e => by subst e; exact hj (killB_same _ _)
               refine hne (hR.env.inj j id s r x (fun e' => hj ?_) (by change blk id ≠ none; change blk id = _ at hB; simp [hB]) hs hi hx (.inl e))
               change blk j = none at e'
               rw [killB_ne hne, e']; rfl
              have hpin : ∀ o, Im r.b o ↔ (sh = true ∧ o < l.length * κ'.sz) := fun o => by
               rw [hR.env.imOwn id _ r o hB hi]
               cases sh <;> simp [Blk.pinned]
              have hreadl : Reads w.heap Im κ' l (cur.toList.take (l.length * κ'.sz)) := fun k j hk hj => by
               obtain ⟨c, hc1, hc2⟩ := hcc k j hk hj
               exact ⟨c, by rw [List.getElem?_take_of_lt (idx_lt hk hj)]; simpa using hc1, hc2⟩
              have htl : (cur.toList.take (l.length * κ'.sz)).length = l.length * κ'.sz := by
               have : l.length * κ'.sz ≤ r.cap * κ'.sz := Nat.mul_le_mul_right _ (by omega)
               simp; omega
              by_cases h0 : m.length = 0
              · have hm0 : m = [] := List.eq_nil_of_length_eq_zero h0
                subst hm0
                simp only [List.append_nil] at hK
                have hrun : (Builtin.append_ #[T, T] o.type #[a.eval x, a.eval y]).run P w = .ok (.slice (some ⟨r.b, 0, none⟩) l.length r.cap) w := by
                 rw [hue, hye, hl1]
                 exact run_append_none hdd (hτ E' ie hTE) o.type _ (by simp) _ _ (by omega) ad c
                refine fin hrun hK (hRk.moved (w' := w) (q := l.length * κ'.sz) ht hlt hownr hfree (fun _ _ => rfl) (fun _ _ => rfl) (Nat.le_refl _) rfl rfl rfl hpin (Nat.le_refl _) (by omega) hl3 hh hcsz (fun k j hk hj => ?_))
                obtain ⟨c, hc1, hc2⟩ := hcc k j hk hj
                exact ⟨c, by simpa using hc1, hc2⟩
              · obtain ⟨b, o', news, rfl, hnl, hnc, hn1, hnr⟩ := hnews h0
                by_cases hroom : l.length + m.length ≤ r.cap
                · have hfit : l.length * xi.size + news.length ≤ cur.size := by
                   rw [hnl, hxs, hsz, ← Nat.add_mul]; exact Nat.le_trans (Nat.mul_le_mul_right _ hroom) hcsz
                  have hrun := run_append_room' (P := P) w T o.type E' T0 xi hdd hxi r.b l.length r.cap cur hh ⟨b, o', none⟩ m.length c news (by rw [hnl, hxs, hsz]) hnc hn1 hroom hfit
                  rw [hxs, hsz] at hrun hfit
                  have hos := setRow_os w r.b (over cur (l.length * κ'.sz) news)
                  have hlen : (l ++ m).length = l.length + m.length := List.length_append
                  have key := hRk.moved (w' := w.setRow r.b (over cur (l.length * κ'.sz) news)) (E := E') (l := l ++ m) (sh := sh) (cap := r.cap) (q := l.length * κ'.sz) ht hlt hownr hfree (fun k hk => setRow_other w r.b k _ hk)
                   (fun o hI => by
                    have := ((hpin o).1 hI).2
                    have e1 : (over cur (l.length * κ'.sz) news)[o]? = cur[o]? := by rw [over_get _ _ _ hfit, if_neg (by omega)]
                    simp only [hcell, setRow_heap w r.b cur _ T0 _ hh, hh, e1]) (by rw [hos.2.2.2]; exact Nat.le_refl _) hos.1 hos.2.1 hos.2.2.1 hpin
                   (by rw [hlen, Nat.add_mul]; omega) (by rw [hlen]; exact hroom) hl3 (setRow_heap w r.b cur _ T0 _ hh) (by rw [over_size _ _ _ hfit]; exact hcsz)
                   (by
                    have := Reads.append (rest := cur.toList.drop (l.length * κ'.sz + news.length)) htl hreadl hnr
                    simpa [over] using this)
                  rw [hlen] at key
                  exact fin (by rw [hue, hye, hl1]; exact hrun) hK key
                · have holds : ∀ j v, (cur.toList.take (l.length * κ'.sz))[j]? = some v → w.cell? ((⟨r.b, 0, none⟩ : Addr).add j) = some v := fun j v hv => by
                   have hj := (List.getElem?_eq_some_iff.1 hv).1
                   rw [htl] at hj
                   rw [List.getElem?_take_of_lt hj] at hv
                   rw [Addr.add_some, cell?_eq, Nat.zero_add]
                   simp only [hcell, hh]; simpa using hv
                  have hneed : l.length + m.length ≤ maxLen := hb2
                  have hrun := run_append_grow (P := P) w T o.type E' xi z hdd hxi hxz ⟨r.b, 0, none⟩ l.length r.cap (cur.toList.take (l.length * κ'.sz)) (by rw [htl, hxs, hsz]) holds ⟨b, o', none⟩ m.length c news (by rw [hnl, hxs, hsz]) hnc
                   (by omega) (by unfold maxLen at hneed; omega) (growslice_fits (by omega) (by rw [hxb]; exact hb1))
                  have hlen : (l ++ m).length = l.length + m.length := List.length_append
                  have key := hRk.grown (t := t) (E := E') (κ := κ') (l := l ++ m) (sh := sh) (cap := grownCap w (l.length + m.length) r.cap E') (w' := w.drew.alloc (.cells ((cur.toList.take (l.length * κ'.sz)).toArray ++ news.toArray ++ Builtin.zeroCells z.cells (grownCap w (l.length + m.length) r.cap E' - (l.length + m.length))) E')) ht rfl rfl rfl rfl
                   (by rw [hlen]; exact grownCap_ge w _ _ _) (grownCap_le_maxLen w _ _ _ hneed) (by
                    have := grownCap_ge w (l.length + m.length) r.cap E'
                    refine Nat.le_of_eq (Eq.symm ?_)
                    simp only [Array.size_append, List.size_toArray, size_zeroCells, hzsz, hnl, htl, ← Nat.add_mul]
                    congr 1; omega)
                   (by
                    have := Reads.append (rest := (Builtin.zeroCells z.cells (grownCap w (l.length + m.length) r.cap E' - (l.length + m.length))).toList) htl hreadl hnr
                    simpa using this)
                  rw [hlen] at key
                  exact fin (by rw [hue, hye, hl1]; exact hrun) hK key
           · simp [hκ] at h
      · exact h.elim
end
end Vg
