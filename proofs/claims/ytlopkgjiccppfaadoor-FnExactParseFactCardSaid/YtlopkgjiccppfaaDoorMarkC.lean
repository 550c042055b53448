/- A call that writes into a slice of a tree's element. No condition. -/
import Derived.Test.YtlopkgjiccppfaaDoorSound15
namespace Vg
open Go

section
variable {P : Program} {τ : Tys} {Im Im' : Nat → Nat → Prop} {ρ ρ' ρ2 : Rho} {h h' : Array Obj} {w w' : World}
variable {w0 : World} {G : GP} {Im0 : Nat → Nat → Prop} {S : AState} {a : Act} {n : Nat} {tm : Nat → AV} {blk : Nat → Option Blk}
variable [hT : Nonempty (TabH w0.heap Im0)]

theorem updB_updB (i : Nat) (x y : Option Blk) : updB (updB blk i x) i y = updB blk i y := by
  funext j
  by_cases e : j = i
  · subst e; rw [updB_same, updB_same]
  · rw [updB_ne _ e, updB_ne _ e, updB_ne _ e]
theorem RepT.flatD {d : Dat} {v : Value} {F : Nat → Prop} (hf : d.flat = true) (hr : RepT h d v F) : RepD h Im d v := by
  cases hr with
  | int k n => exact .int k n
  | bool b => exact .bool b
  | str s => exact .str s
  | nil => cases hf
  | seq => cases hf
theorem RepT.one {d : Dat} {v : Value} {F : Nat → Prop} (hr : RepT h d v F) : v.oneCell' = true := by cases hr <;> rfl

/-- the slice in a tree's element, as a block of its own -/
theorem sub_env {E2 : Nat} {κ' : K} {l0 : List κ'.T} {c : Value} {F : Nat → Prop} (hf : κ'.flat = true) (hr : RepT h (.seq κ' l0) c F) (hlt : ∀ b o, Im b o → b < h.size) (hF : ∀ x o, F x → ¬ Im x o) :
    ∃ ρ1 : Rho, AVR ρ1 h Im (.row 0) c ∧ Env (fun j => [Blk.row E2 κ' l0 false][j]?) ρ1 Im h ∧ (∀ r, ρ1 0 = some r → F r.b ∧ ∀ x, ¬ r.fp x) ∧
      (∀ (h' : Array Obj) (Im' : Nat → Nat → Prop) (ρ' : Rho) (T : Nat) (κ'' : K) (l1 : List κ''.T), κ''.flat = true → ρ' 0 = ρ1 0 → BlkR ρ' h' Im' 0 (.row T κ'' l1 false) → RepT h' (.seq κ'' l1) c F) := by
  cases hr with
  | nil _ _ hl =>
    refine ⟨fun _ => none, .rowN 0 rfl, ⟨fun i b hi => ?_, fun i j r s x _ _ hr => (by cases hr), fun i r _ hr => (by cases hr), fun i r x _ hr => (by cases hr), fun i r x o _ hr => (by cases hr), hlt, fun i b r o _ hr => (by cases hr)⟩, fun r hr => (by cases hr), fun h' Im' ρ' T κ'' l1 _ e hB => ?_⟩
    · match i with
      | 0 => simp at hi; subst hi; exact hl
      | i + 1 => simp at hi
    · simp only [BlkR, e] at hB; exact .nil κ'' l1 hB _
  | seq _ _ b cap T cs cf Fk _ hcap hmax hb hh hsz hsub hdis hc hr =>
    refine ⟨fun _ => some (.at b cap l0.length), .row 0 (.at b cap l0.length) rfl, ⟨fun i b' hi => ?_, fun i j r s x hi hj _ _ _ _ => ?_, fun i r _ hr => by cases hr; exact fun h => h, fun i r x _ hr hx => by cases hr; exact hx.elim, fun i r x o _ hr hx => by cases hr; exact hx.elim, hlt, fun i b' r o hi hr => ?_⟩,
      fun r hr => by cases hr; exact ⟨hb, fun x hx => hx⟩, fun h' Im' ρ' T κ'' l1 hf2 e hB => ?_⟩
    · match i with
      | 0 =>
        simp at hi; subst hi
        refine ⟨rfl, hcap, hmax, cs, T, hh, hsz, fun k j hk hj => ⟨_, hc k j hk hj, (hr k j hk hj).flatD (K.flat_cell hf l0 k j)⟩⟩
      | i + 1 => simp at hi
    · match i, j with
      | 0, 0 => rfl
      | 0, j + 1 => simp at hj
      | i + 1, _ => simp at hi
    · match i with
      | 0 =>
        simp at hi; subst hi; cases hr
        exact ⟨fun h1 => absurd h1 (hF b o hb), fun h1 => by simp [Blk.pinned] at h1⟩
      | i + 1 => simp at hi
    · simp only [BlkR, e] at hB
      obtain ⟨h1, h2, h3, cs', T', h4, h5, h6⟩ := hB
      have h1' : l0.length = l1.length := h1
      rw [h1']
      refine .seq κ'' l1 b cap T' cs' (fun k j => cs'.getD (k * κ''.sz + j) undef) (fun _ _ _ => False) F (by omega) h3 hb h4 h5 (fun _ _ _ _ _ h => h.elim) (fun _ _ _ _ _ _ _ _ _ h => h.elim) (fun k j hk hj => ?_) (fun k j hk hj => ?_)
      · obtain ⟨c, hc1, _⟩ := h6 k j hk hj
        simp [hc1]
      · obtain ⟨c, hc1, hc2⟩ := h6 k j hk hj
        simp only [Array.getD_eq_getD_getElem?, hc1, Option.getD_some]
        exact hc2.toT (K.flat_cell hf2 l1 k j)

theorem markCall_sound (hτ : TysOk P τ) {o1 o2 o3 : Oper} {K : AState → Prop} (h : markCall P τ S o1 o2 o3 K) (hR : Rel w0 G Im0 S ρ Im a w) {next : Act → World → Prop} {Q : Exit → Act → World → Prop}
    (hn : ∀ S' a' w', K S' → RelE w0 G Im0 S' a' w' → next a' w') :
    (o1.guard = none ∧ o2.guard = none ∧ o3.guard = none) ∧ o1.wp P a w (fun a w => o2.wp P a w (fun a w => o3.wp P a w next Q) Q) Q := by
  unfold markCall at h
  split at h
  case h_2 => exact h.elim
  rename_i g1 g2 g3
  refine ⟨⟨g1, g2, g3⟩, ?_⟩
  split at h
  case h_2 => exact h.elim
  rename_i T p d1 y d2 g args ts e1 e2 e3 e4 e5
  split at h
  case h_2 => exact h.elim
  rename_i id k j sz a1 a2 i ep eargs eT
  obtain ⟨n, tm, blk⟩ := S
  simp only at h
  split at h
  case h_2 => exact h.elim
  rename_i E κ l E2 κd eB ed ea
  split at h
  case h_2 => exact h.elim
  rename_i hchk
  simp only [Bool.and_eq_true, Bool.not_eq_true'] at hchk
  obtain ⟨⟨⟨⟨⟨⟨⟨c1, c2⟩, c3⟩, c4⟩, c5⟩, c6⟩, c7⟩, c8⟩ := hchk
  have c1 := Nat.eq_of_beq_eq_true c1
  have c2 := Nat.eq_of_beq_eq_true c2
  have c3 := Nat.eq_of_beq_eq_true c3
  have c5 := blt_lt c5
  have c6 := blt_lt c6
  have c8 := blt_lt c8
  subst c1 c2 c3
  have hne : a1 ≠ a2 := fun e => by subst e; simp at c4
  obtain ⟨hk, h⟩ := h
  split at h
  case h_2 => exact h.elim
  rename_i κ' l0 ecell
  split at h
  case h_2 => exact h.elim
  rename_i hflat
  rw [forceC_eq] at h
  split at h
  case h_2 => exact h.elim
  rename_i hvy
  obtain ⟨R, hX, hres⟩ := h
  obtain ⟨⟨fn, f1, f2, f3⟩, hcall⟩ := hX
  -- the tree
  have hp := ev_rel hR p
  rw [ep] at hp
  generalize hpe : a.eval p = u at hp
  cases hp with
  | rptr _ _ _ _ r hr =>
  have hiN : blk id ≠ none := by rw [eB]; exact fun h => by cases h
  have hbl := hR.env.bl id _ eB
  simp only [BlkR, hr] at hbl
  obtain ⟨b1, b2, b3, cs, Fk, T0, hh, hcsz, hF, hD, hcc⟩ := hbl
  obtain ⟨c, hc1, hc2⟩ := hcc k j hk c8
  have ecell' : cellOf κ l k j = .seq κ' l0 := by unfold cellOf; rw [List.getD_eq_getElem?_getD, ecell]; rfl
  rw [ecell'] at hc2
  have hrun : (Instr.loadAt T (.pointer (some ⟨r.b, k * κ.sz + j, none⟩))).run P w = .ok c w := by
    simp only [Instr.loadAt, Instr.sureAddr, pure_bind]
    have run := run_loadVar_cells (hτ T i eT) w r.b (k * κ.sz + j) (fun _ => c) (by
      simp only [ea]; intro m hm
      have : m = 0 := by omega
      subst this
      simp [hcell, hh, hc1])
    simp only [ea] at run
    exact run
  -- load, move
  unfold Oper.wp
  have r1 : (execOp a.eval o1).run P w = .ok (.value c) w := by simp [execOp, e1, hpe, hrun]
  rw [r1]
  simp only [Oper.upon, e2]
  have hyv : (a.put (some a1) c).eval y = a.eval y := Act.eval_put fun d hd hyd => by
    cases hd; subst hyd; simp [notTmp] at c7
  have r2 : (execOp (a.put (some a1) c).eval o2).run P w = .ok (.value (a.eval y)) w := by simp [execOp, e3, hyv]
  rw [r2]
  simp only [e4]
  -- the call
  have hsz : a.tmps.size = n := hR.size
  have v1 : ((a.put (some a1) c).put (some a2) (a.eval y)).eval (.tmp a1) = c := by
    show ((a.put (some a1) c).put (some a2) (a.eval y)).tmps.getD a1 undef = c
    simp only [Act.put, Array.getD_eq_getD_getElem?]
    rw [Array.getElem?_setIfInBounds_ne (fun e => hne e.symm), Array.getElem?_setIfInBounds_self_of_lt (by omega)]
    rfl
  have v2 : ((a.put (some a1) c).put (some a2) (a.eval y)).eval (.tmp a2) = a.eval y := by
    show ((a.put (some a1) c).put (some a2) (a.eval y)).tmps.getD a2 undef = a.eval y
    simp only [Act.put, Array.getD_eq_getD_getElem?]
    have ha2 : a2 < (a.tmps.setIfInBounds a1 c).size := by rw [Array.size_setIfInBounds]; exact hsz ▸ c6
    rw [Array.getElem?_setIfInBounds_self_of_lt ha2]
    rfl
  have eargs' : args = #[.tmp a1, .tmp a2] := by cases args; simpa using eargs
  subst eargs'
  rw [run_call (f := .func g) e5 rfl f1 f2 f3]
  try simp only
  have hFk : ∀ x, Fk k j x → r.fp x ∧ x ≠ r.b := fun x hx => hF k j x hk c8 hx
  obtain ⟨ρ1, hav, hE1, hρ1, hback⟩ := sub_env (E2 := E2) (Im := Im) hflat hc2 hR.env.imlt (fun x o hx => hR.env.fpIm id r x o hiN hr (hFk x hx).1)
  have hy := ev_rel hR y
  have hGF : ∀ x, (GP.of 1 ρ1) x → Fk k j x := by
    rintro x ⟨m, s, hm, hs, hx⟩
    have : m = 0 := by omega
    subst this
    obtain ⟨q1, q2⟩ := hρ1 s hs
    rcases hx with rfl | hx
    · exact q1
    · exact absurd hx (q2 x)
  refine (hcall w Im ρ1 _ (by simp) (fun m x hx => ?_) hE1 hR.tab).mono ?_
  · match m with
    | 0 => simp at hx; subst hx; simpa [v1] using hav
    | 1 => simp at hx; subst hx; simpa [v2] using hy.flat hvy
    | m + 2 => simp at hx
  rintro e w' ⟨v, res, B', ρ', Im', rfl, hRes, hv, E', hkeep, X'⟩
  simp only
  have hK := hres res B' hRes
  split at hK
  case h_2 => exact hK.elim
  rename_i T1 κ'' l1
  split at hK
  case h_2 => exact hK.elim
  rename_i hfl2
  rw [Bool.and_eq_true] at hfl2
  split at hK
  case h_2 => exact hK.elim
  rename_i x' hput
  have henc := Vg.K.putS_enc hput
  -- the caller's state behind it
  have hno : ∀ m s z, updB blk id none m ≠ none → ρ m = some s → s.has z → ¬ (GP.of 1 ρ1) z := fun m s z hm hs hz hG => by
    have hmi : m ≠ id := fun e => by subst e; exact hm (updB_same _ _ _)
    rw [updB_ne _ hmi] at hm
    exact hmi (hR.env.inj m id s r z hm hiN hs hr hz (.inr (hFk z (hGF z hG)).1))
  have hR1 := (hR.drop (i := id)).afterG (S := ⟨n, tm, updB blk id none⟩) hno (fun z hz => hR.ext.own id r z hiN hr (.inr (hFk z (hGF z hz)).1)) X' E'.imlt
  have hfr : ∀ z, r.has z → ¬ Fk k j z → w'.heap[z]? = w.heap[z]? := fun z hz hnF => X'.frame z (hR.env.lt hiN hr hz) (fun hG => hnF (hGF z hG))
  have hImN : ∀ z o, r.has z → ¬ Im' z o := fun z o hz hI => by
    have old : ¬ Im z o := fun h1 => by
      rcases hz with rfl | hz
      · have := (hR.env.imOwn id _ r o eB hr).1 h1
        simp [Blk.pinned] at this
      · exact hR.env.fpIm id r z o hiN hr hz h1
    rcases X'.imNew z o hI with h1 | h1 | h1
    · exact old h1
    · obtain ⟨m, s, hm, hs, hx⟩ := h1
      have : m = 0 := by have h1 : m < 1 := hm; omega
      subst this
      obtain ⟨_, q2⟩ := hρ1 s hs
      have hzb : z = s.b := hx.resolve_right (q2 z)
      subst hzb
      have h0 := (hkeep 0 (by omega)).2
      have := (E'.imOwn 0 _ s o rfl (h0.trans hs)).1 hI
      simp [Blk.pinned] at this
    · have := hR.env.lt hiN hr hz; omega
  have hrbF : ¬ Fk k j r.b := fun h1 => (hFk _ h1).2 rfl
  have hjl : j + 1 ≤ κ.sz := c8
  have hBT : BlkR ρ w'.heap Im' id (.tree E κ (l.set k x')) := by
    simp only [BlkR, hr]
    refine ⟨by simpa using b1, b2, b3, cs, Fk, T0, by rw [hfr r.b (.inl rfl) hrbF]; exact hh, hcsz, fun k' j' z h1 h2 => hF k' j' z (by simpa using h1) h2, fun k1 j1 k2 j2 z q1 q2 q3 q4 => hD k1 j1 k2 j2 z (by simpa using q1) q2 (by simpa using q3) q4, fun k' j' hk' hj' => ?_⟩
    simp only [List.length_set] at hk'
    obtain ⟨c0, hq1, hq2⟩ := hcc k' j' hk' hj'
    by_cases ek : k' = k
    · subst ek
      have hg : (l.set k' x').getD k' κ.dflt = x' := by simp [List.getD_eq_getElem?_getD, hk]
      simp only [cellOf, hg, henc]
      rw [splice_getD _ [Dat.seq κ'' l1] j 1 j' _ rfl (by rw [κ.enc_length]; exact hjl)]
      by_cases hin : j ≤ j' ∧ j' < j + 1
      · rw [if_pos hin]
        have ej : j' = j := by omega
        subst ej
        rw [hc1] at hq1; cases hq1
        refine ⟨c, hc1, ?_⟩
        simp only [Nat.sub_self, List.getD_cons_zero]
        exact hback w'.heap Im' ρ' T1 κ'' l1 hfl2.1 (hkeep 0 (by omega)).2 (E'.bl 0 _ rfl)
      · rw [if_neg hin]
        refine ⟨c0, hq1, hq2.mono fun z hz => hfr z (.inr (hF k' j' z hk' hj' hz).1) fun hz2 => ?_⟩
        have := (hD k' j' k' j z hk' hj' hk' c8 hz hz2).2
        omega
    · have hg : (l.set k x').getD k' κ.dflt = l.getD k' κ.dflt := by simp [List.getD_eq_getElem?_getD, List.getElem?_set_ne (fun e' => ek e'.symm)]
      simp only [cellOf, hg]
      exact ⟨c0, hq1, hq2.mono fun z hz => hfr z (.inr (hF k' j' z hk' hj' hz).1) fun hz2 => ek (hD k' j' k j z hk' hj' hk c8 hz hz2).1⟩
  have hR2 := hR1.ins (t := id) (b := .tree E κ (l.set k x')) (updB_same _ _ _) hBT (fun s o hs => by
      rw [hr] at hs; cases hs
      exact ⟨fun h1 => absurd h1 (hImN _ o (.inl rfl)), fun h1 => by simp [Blk.pinned] at h1⟩)
    (fun s hs => by
      rw [hr] at hs; cases hs
      exact ⟨hR.env.fpNe id r hiN hr, fun z hz => ⟨Nat.lt_of_lt_of_le (hR.env.fpLt id r z hiN hr hz) X'.grow, fun o => hImN z o (.inr hz)⟩⟩)
    (fun s m s' z hs hm hs' hz hz' => by
      rw [hr] at hs; cases hs
      have hmi : m ≠ id := fun e => by subst e; exact hm (updB_same _ _ _)
      rw [updB_ne _ hmi] at hm
      exact hmi (hR.env.inj m id s' r z hm hiN hs' hr hz hz'))
    (fun s z hs hz => by rw [hr] at hs; cases hs; exact hR.ext.own id r z hiN hr hz)
    (fun q hq => hR.ext.pin id q hq hiN)
  rw [updB_updB] at hR2
  have hR3 := (hR2.put c5 (AVR.cell c hc2.one)).put (t := a2) c6 (hy.flat hvy)
  obtain ⟨S2, hK2, hS2⟩ := put_ok (w0 := w0) (G := G) (Im0 := Im0) (hK _ rfl)
  exact hn S2 _ _ hK2 ⟨_, _, hS2 hR3 (hv.flat hfl2.2)⟩

theorem awpL_sound (hτ : TysOk P τ) {ops : Array Oper} {Q : Exit → Act → World → Prop} : ∀ (l : List Oper) (S : AState) (K : AState → Prop) (a : Act) (w : World), awpL P τ ops l S K → RelE w0 G Im0 S a w →
    (∀ S' a' w', K S' → RelE w0 G Im0 S' a' w' → Q .normal a' w') → wpList P ops Q l a w
  | [], S, K, a, w, h, hR, hn => hn S a w h hR
  | [o], S, K, a, w, h, hR, hn => awpOps_sound hτ [o] S K a w h hR hn
  | [o, o'], S, K, a, w, h, hR, hn => awpOps_sound hτ [o, o'] S K a w h hR hn
  | o1 :: o2 :: o3 :: rest, S, K, a, w, h, ⟨ρ, Im, hR⟩, hn => by
    unfold awpL at h
    have ih := fun S a w h hR => awpL_sound hτ (ops := ops) (Q := Q) rest S K a w h hR hn
    have ih2 := fun S a w h hR => awpL_sound hτ (ops := ops) (Q := Q) (o2 :: o3 :: rest) S K a w h hR hn
    cases hm : markB τ S o1 with
    | false =>
      simp only [hm] at h
      exact wpList_step fun K' hK' => awpOps_step hτ h hR fun S' a' w' hS hR' => hK' _ _ (ih2 S' a' w' hS hR')
    | true =>
      simp only [hm] at h
      refine wpList_step fun K1 hK1 => ?_
      obtain ⟨⟨g1, g2, g3⟩, _⟩ := markCall_sound (next := fun _ _ => True) (Q := Q) hτ h hR (fun _ _ _ _ _ => trivial)
      have w1 : Region.wanted o1 (yielded ops a.tmps) = true := by simp [Region.wanted, g1]
      rw [if_pos w1]
      have := (markCall_sound (next := fun a w => wpList P ops Q rest a w) (Q := Q) hτ h hR (fun S' a' w' hS hR' => ih S' a' w' hS hR')).2
      refine Oper.wp_mono (fun a2 w2 h2 => hK1 a2 w2 (wpList_step fun K2 hK2 => ?_)) this
      rw [if_pos (by simp [Region.wanted, g2])]
      refine Oper.wp_mono (fun a3 w3 h3 => hK2 a3 w3 (wpList_step fun K3 hK3 => ?_)) h2
      rw [if_pos (by simp [Region.wanted, g3])]
      exact Oper.wp_mono (fun a4 w4 h4 => hK3 a4 w4 h4) h3
end
end Vg
