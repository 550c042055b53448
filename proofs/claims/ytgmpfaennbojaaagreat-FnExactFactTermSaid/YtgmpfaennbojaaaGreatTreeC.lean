/- Literals of slices whose elements own slices. Conditions: what is taken in is used up. -/
import Derived.Test.YtgmpfaennbojaaaGreatTree
import Derived.Test.YtgmpfaennbojaaaGreatSound
namespace Vg
open Go
section
variable {P : Program} {τ : Tys} {w0 : World} {G : GP} {Im0 : Nat → Nat → Prop} {ρ : Rho} {Im : Nat → Nat → Prop} {a : Act} {w : World}
theorem elemsT_ok {κ : K} {zs : List Dat} {e : Operand → AV} (hE : ∀ x, AVR ρ w.heap Im (e x) (a.eval x)) :
 ∀ (k : Nat) (parts : List (Nat × Operand)) (S : AState) (K : AState → List κ.T → Prop), elemsT κ zs e k parts S K → Rel w0 G Im0 S ρ Im a w →
  ∃ (S' : AState) (ys : List κ.T) (Fs : Nat → Nat → Nat → Prop), K S' ys ∧ Rel w0 G Im0 S' ρ Im a w ∧ ys.length = parts.length ∧
   (∀ (m : Nat) (p : Nat × Operand), parts[m]? = some p → p.1 = k + m ∧ (a.eval p.2).cells.size = κ.sz ∧
    ∀ j, j < κ.sz → ∃ c, (a.eval p.2).cells[j]? = some c ∧ RepT w.heap (cellOf κ ys m j) c (Fs m j)) ∧
   (∀ m j x, Fs m j x → Free w0 G S'.blk ρ Im w x) ∧ (∀ m j m' j' x, Fs m j x → Fs m' j' x → m = m' ∧ j = j') ∧
   (∀ m j x, Fs m j x → ∃ i r, S.blk i ≠ none ∧ S'.blk i = none ∧ ρ i = some r ∧ r.has x) ∧ ∀ j, S'.blk j ≠ none → S.blk j ≠ none
 | k, [], S, K, h, hR => ⟨S, [], fun _ _ _ => False, h, hR, rfl, by simp, fun _ _ _ x => x.elim, fun _ _ _ _ _ x => x.elim, fun _ _ _ x => x.elim, fun _ x => x⟩
 | k, (i, x) :: rest, S, K, h, hR => by
  simp only [elemsT] at h
  cases hb : Nat.beq i k with
  | false => simp [hb] at h
  | true =>
   simp only [hb] at h
   have hik : i = k := Nat.eq_of_beq_eq_true hb
   cases hc : (e x).cells1 with
   | none => simp [hc] at h
   | some vs =>
    simp only [hc] at h
    have hv := (hE x).cells1 hc
    obtain ⟨S1, ds, F1, h1, hR1, hl, hl', hds, hFr1, hDs1, hKd1, hsub1⟩ := takeDs_ok zs vs S (fun j => (a.eval x).cells.getD j undef) _ h hR (fun j y hy => by
     obtain ⟨c, h1, h2⟩ := hv.2 j y hy
     simpa [h1] using h2)
    cases hd : κ.dec ds with
    | none => simp [hd] at h1
    | some y =>
     simp only [hd] at h1
     have hz : zs.length = κ.sz := by rw [← hl', ← hl, ← Vg.K.dec_enc hd, κ.enc_length]
     obtain ⟨S2, ys, F2, h2, hR2, hyl, hys, hFr2, hDs2, hKd2, hsub2⟩ := elemsT_ok hE (k + 1) rest S1 _ h1 hR1
     have far : ∀ j m j' z, F1 j z → ¬ F2 m j' z := fun j m j' z hx hy => by
      obtain ⟨i, r, e1, e2, e3, e4⟩ := hKd2 m j' z hy
      exact (hFr1 j z hx).far i r e1 e3 e4
     refine ⟨S2, y :: ys, fun m => match m with | 0 => F1 | m + 1 => F2 m, h2, hR2, by simp [hyl], fun m p hp => ?_, fun m j z hz' => ?_, fun m j m' j' z q1 q2 => ?_, fun m j z hz' => ?_, fun j hj => hsub1 j (hsub2 j hj)⟩
     · cases m with
       | zero =>
        simp at hp; subst hp
        have hsz : (a.eval x).cells.size = κ.sz := by rw [hv.1, hl', hz]
        refine ⟨hik, hsz, fun j hj => ?_⟩
        obtain ⟨d, hd1, hd2⟩ := enc_of_dec hd j hj
        have hlt : j < (a.eval x).cells.size := by omega
        refine ⟨(a.eval x).cells[j], Array.getElem?_eq_getElem hlt, ?_⟩
        have := hds j d hd1
        simp only [Array.getD_eq_getD_getElem?, Array.getElem?_eq_getElem hlt, Option.getD_some] at this
        simp only [cellOf, List.getD_cons_zero, hd2]
        exact this
       | succ m =>
        simp at hp
        obtain ⟨q1, q2, q3⟩ := hys m p hp
        exact ⟨by omega, q2, q3⟩
     · cases m with
       | zero => exact (hFr1 j z hz').mono hsub2
       | succ m => exact hFr2 m j z hz'
     · cases m with
       | zero => cases m' with
        | zero => exact ⟨rfl, hDs1 j j' z q1 q2⟩
        | succ m' => exact absurd q2 (far j m' j' z q1)
       | succ m => cases m' with
        | zero => exact absurd q1 (far j' m j z q2)
        | succ m' => obtain ⟨e1, e2⟩ := hDs2 m j m' j' z q1 q2; exact ⟨by omega, e2⟩
     · cases m with
       | zero =>
        obtain ⟨i, r, e1, e2, e3, e4⟩ := hKd1 j z hz'
        refine ⟨i, r, e1, ?_, e3, e4⟩
        cases e5 : S2.blk i with
        | none => rfl
        | some b => exact absurd e2 (hsub2 i (by rw [e5]; exact fun h => by cases h))
       | succ m =>
        obtain ⟨i, r, e1, e2, e3, e4⟩ := hKd2 m j z hz'
        exact ⟨i, r, hsub1 i e1, e2, e3, e4⟩
end
end Vg

namespace Vg
open Go
section
variable {P : Program} {τ : Tys} {w0 : World} {G : GP} {Im0 : Nat → Nat → Prop} {ρ : Rho} {Im : Nat → Nat → Prop} {a : Act} {w w' : World} {h : Array Obj}
variable {S : AState} {n : Nat} {tm : Nat → AV} {blk : Nat → Option Blk}
theorem Free.after {x : Nat} (hf : Free w0 G blk ρ Im w x) (hg : w.heap.size ≤ w'.heap.size) : Free w0 G blk ρ Im w' x :=
 ⟨Nat.lt_of_lt_of_le hf.lt hg, hf.im, hf.own, hf.far⟩
theorem Rel.entree (hR : Rel w0 G Im0 ⟨n, tm, blk⟩ ρ Im a w) {t E cap b0 : Nat} {κ : K} {l : List κ.T} {fp : Nat → Prop} (ht : t < n ∧ t < 900000)
 (hb : Free w0 G blk ρ Im w b0) (hne : ¬ fp b0) (hfp : ∀ x, fp x → Free w0 G blk ρ Im w x)
 (hB : BlkR (updR ρ t (some ⟨b0, cap, l.length, fp⟩)) w.heap Im t (.tree E κ l)) :
 RelE w0 G Im0 ⟨n, updT (killT tm t) t (.row t), updB (killB blk t) t (some (.tree E κ l))⟩ (a.put (some t) (.slice (some ⟨b0, 0, none⟩) l.length cap)) w := by
 have h2 := hR.kill (ρ' := updR ρ t (some ⟨b0, cap, l.length, fp⟩)) (i := t) (fun j hj => updR_ne _ hj)
 have key : ∀ x, RI.has ⟨b0, cap, l.length, fp⟩ x → Free w0 G blk ρ Im w x := fun x hx => hx.elim (fun e => e ▸ hb) (hfp x)
 refine ⟨_, _, Rel.put (h2.ins (b := .tree E κ l) (killB_same _ _) hB (fun r o hr => ?_) (fun r hr => ?_) (fun r j s x hr hj hs hx hy => ?_) (fun r x hr hx => ?_) (fun p hp => by rw [G.lt t ht.2] at hp; cases hp)) ht.1 (.row t ⟨b0, cap, l.length, fp⟩ (updR_same _ _ _))⟩
 · rw [updR_same] at hr; cases hr
   exact ⟨fun h => absurd h (hb.im o), fun h => by simp [Blk.pinned] at h⟩
 · rw [updR_same] at hr; cases hr
   exact ⟨hne, fun x hx => ⟨(hfp x hx).lt, (hfp x hx).im⟩⟩
 · rw [updR_same] at hr; cases hr
   have := kill_sub hj
   rw [updR_ne _ this.2] at hs
   exact (key x hy).far j s this.1 hs hx
 · rw [updR_same] at hr; cases hr
   exact (key x hx).own
def ReadsT (h : Array Obj) (κ : K) (l : List κ.T) (cs : List Value) (Fk : Nat → Nat → Nat → Prop) : Prop :=
 ∀ k j, k < l.length → j < κ.sz → ∃ c, cs[k * κ.sz + j]? = some c ∧ RepT h (cellOf κ l k j) c (Fk k j)
theorem ReadsT.append {κ : K} {l m : List κ.T} {os ns : List Value} {F1 F2 : Nat → Nat → Nat → Prop} (ho : os.length = l.length * κ.sz) (h1 : ReadsT h κ l os F1) (h2 : ReadsT h κ m ns F2) (rest : List Value) :
 ReadsT h κ (l ++ m) (os ++ ns ++ rest) (fun k j => if k < l.length then F1 k j else F2 (k - l.length) j) := by
 intro k j hk hj
 simp only [List.length_append] at hk
 by_cases hkl : k < l.length
 · obtain ⟨c, hc1, hc2⟩ := h1 k j hkl hj
   have := idx_lt hkl hj
   refine ⟨c, by rw [List.append_assoc, List.getElem?_append_left (by omega)]; exact hc1, ?_⟩
   have e : (l ++ m).getD k κ.dflt = l.getD k κ.dflt := by simp [List.getD_eq_getElem?_getD, List.getElem?_append_left hkl]
   simp only [cellOf, e, if_pos hkl]; exact hc2
 · obtain ⟨c, hc1, hc2⟩ := h2 (k - l.length) j (by omega) hj
   have hle := Nat.mul_le_mul_right κ.sz (Nat.le_of_not_lt hkl)
   have e0 : k * κ.sz + j - os.length = (k - l.length) * κ.sz + j := by rw [ho, Nat.sub_mul]; omega
   have hlt := (List.getElem?_eq_some_iff.1 hc1).1
   refine ⟨c, by rw [List.append_assoc, List.getElem?_append_right (by omega), e0, List.getElem?_append_left hlt]; exact hc1, ?_⟩
   have e : (l ++ m).getD k κ.dflt = m.getD (k - l.length) κ.dflt := by simp [List.getD_eq_getElem?_getD, List.getElem?_append_right (Nat.le_of_not_lt hkl)]
   simp only [cellOf, e, if_neg hkl]; exact hc2
def below (n sz : Nat) (Fk : Nat → Nat → Nat → Prop) (x : Nat) : Prop := ∃ k j, k < n ∧ j < sz ∧ Fk k j x
theorem Rel.treeAt (hR : Rel w0 G Im0 ⟨n, tm, blk⟩ ρ Im a w) {t E cap b0 T0 : Nat} {κ : K} {l : List κ.T} {Fk : Nat → Nat → Nat → Prop} {cs : Array Value} (ht : t < n ∧ t < 900000)
 (hb : Free w0 G blk ρ Im w b0) (hh : w.heap[b0]? = some (.cells cs T0 (0, 0))) (hcap : l.length ≤ cap) (hmax : cap ≤ maxLen) (hsz : cap * κ.sz ≤ cs.size)
 (hF : ∀ k j x, k < l.length → j < κ.sz → Fk k j x → Free w0 G blk ρ Im w x ∧ x ≠ b0)
 (hD : ∀ k j k' j' x, k < l.length → j < κ.sz → k' < l.length → j' < κ.sz → Fk k j x → Fk k' j' x → k = k' ∧ j = j') (hc : ReadsT w.heap κ l cs.toList Fk) :
 RelE w0 G Im0 ⟨n, updT (killT tm t) t (.row t), updB (killB blk t) t (some (.tree E κ l))⟩ (a.put (some t) (.slice (some ⟨b0, 0, none⟩) l.length cap)) w := by
 refine hR.entree (fp := below l.length κ.sz Fk) ht hb (fun ⟨k, j, h1, h2, h3⟩ => (hF k j _ h1 h2 h3).2 rfl) (fun x ⟨k, j, h1, h2, h3⟩ => (hF k j x h1 h2 h3).1) ?_
 simp only [BlkR, updR_same]
 refine ⟨trivial, hcap, hmax, cs, Fk, T0, hh, hsz, fun k j x hk hj hx => ⟨⟨k, j, hk, hj, hx⟩, (hF k j x hk hj hx).2⟩, hD, fun k j hk hj => ?_⟩
 obtain ⟨c, h1, h2⟩ := hc k j hk hj
 exact ⟨c, by simpa using h1, h2⟩
theorem Rel.newTreeF (hR : Rel w0 G Im0 ⟨n, tm, blk⟩ ρ Im a w) {t E cap : Nat} {κ : K} {l : List κ.T} {Fk : Nat → Nat → Nat → Prop} (ht : t < n ∧ t < 900000) {cs : Array Value} (hh : w'.heap = w.heap.push (.cells cs E))
 (ho : w'.os = w.os) (htp : w'.tape = w.tape) (hout : w'.output = w.output) (hcap : l.length ≤ cap) (hmax : cap ≤ maxLen) (hsz : cap * κ.sz ≤ cs.size)
 (hF : ∀ k j x, k < l.length → j < κ.sz → Fk k j x → Free w0 G blk ρ Im w x)
 (hD : ∀ k j k' j' x, k < l.length → j < κ.sz → k' < l.length → j' < κ.sz → Fk k j x → Fk k' j' x → k = k' ∧ j = j') (hc : ReadsT w.heap κ l cs.toList Fk) :
 RelE w0 G Im0 ⟨n, updT (killT tm t) t (.row t), updB (killB blk t) t (some (.tree E κ l))⟩ (a.put (some t) (.slice (some ⟨w.heap.size, 0, none⟩) l.length cap)) w' := by
 have hg : w.heap.size ≤ w'.heap.size := by rw [hh]; simp
 have h1 := hR.after (Im2 := Im) (fun b hb => by rw [hh]; exact heap_push_lt hb) hg ho htp hout (fun _ _ x => x) (fun _ _ x => .inl x)
 refine h1.treeAt (Fk := Fk) (cs := cs) (T0 := E) ht ⟨by rw [hh]; simp, fun o hI => ?_, .inr hR.ext.grow, fun j s hj hs hx => ?_⟩ (by rw [hh]; exact heap_push_new _ _) hcap hmax hsz
  (fun k j x hk hj hx => ⟨(hF k j x hk hj hx).after hg, fun e => ?_⟩) hD (fun k j hk hj => ?_)
 · exact Nat.lt_irrefl _ (hR.env.imlt _ _ hI)
 · exact Nat.lt_irrefl _ (hR.env.lt hj hs hx)
 · subst e; exact Nat.lt_irrefl _ (hF k j _ hk hj hx).lt
 · obtain ⟨c, h1, h2⟩ := hc k j hk hj
   exact ⟨c, h1, h2.mono fun x hx => by rw [hh]; exact heap_push_lt (hF k j x hk hj hx).lt⟩
theorem Rel.nilTree (hR : Rel w0 G Im0 ⟨n, tm, blk⟩ ρ Im a w) {t E : Nat} {κ : K} {l : List κ.T} (ht : t < n ∧ t < 900000) (hl : l.length = 0) :
 RelE w0 G Im0 ⟨n, updT (killT tm t) t (.row t), updB (killB blk t) t (some (.tree E κ l))⟩ (a.put (some t) (.slice none 0 0)) w := by
 have h2 := hR.kill (ρ' := updR ρ t none) (i := t) (fun j hj => updR_ne _ hj)
 refine ⟨_, _, Rel.put (h2.ins (b := .tree E κ l) (killB_same _ _) ?_ (fun r o hr => ?_) (fun r hr => ?_) (fun r j s x hr => ?_) (fun r x hr => ?_) (fun p hp => by rw [G.lt t ht.2] at hp; cases hp)) ht.1 (.rowN t (updR_same _ _ _))⟩
 · simp only [BlkR, updR_same]; exact hl
 · rw [updR_same] at hr; cases hr
 · rw [updR_same] at hr; cases hr
 · rw [updR_same] at hr; cases hr
 · rw [updR_same] at hr; cases hr
theorem buildSliceT_ok (hτ : TysOk P τ) {o : Oper} {T t len E : Nat} {κ κ' : K} {i ie : TyI} {parts : Array (Nat × Operand)} {K : AState → Prop} (hop : o.op = .buildSlice T len parts) (hdst : o.dst = some t)
 (hT : τ T = some i) (hd : i.desc = .slice E κ') (hE : τ E = some ie) (hsz : ie.size = κ.sz) (hlen : parts.toList.length = len) (hbig : len * ie.size ≤ 16777216)
 (h : elemsT κ ie.zeroD (ev S) 0 parts.toList S fun S ys => S.new t (.tree E κ ys) (.row t) K)
 (hR : Rel w0 G Im0 S ρ Im a w) {next : Act → World → Prop} {Q : Exit → Act → World → Prop}
 (hn : ∀ S' a' w', K S' → RelE w0 G Im0 S' a' w' → next a' w') : o.wp P a w next Q := by
 obtain ⟨d, hdd, _, hdesc⟩ := (hτ T i hT).und
 simp only [hd] at hdesc
 subst hdesc
 obtain ⟨S', ys, Fs, h1, hR', hyl, hys, hFr, hDs, _, _⟩ := elemsT_ok (ev_rel hR) 0 parts.toList S _ h hR
 obtain ⟨n, tm, blk, rfl, ht, hK⟩ := new_ok h1
 obtain ⟨z, hz, hzc⟩ := run_zero (hτ E ie hE) w
 have hpos : 0 < κ.sz := κ.sz_pos
 obtain ⟨zc, hzc'⟩ : ∃ zc : Array Value, zc = if len * ie.size = 0 then #[] else z.cells := ⟨_, rfl⟩
 obtain ⟨cs, hcs⟩ : ∃ cs : Array Value, cs = (Array.range (len * ie.size)).map (zc[· % zc.size]!) := ⟨_, rfl⟩
 have hcsz : cs.size = len * ie.size := by rw [hcs]; simp
 have hps : ∀ (m : Nat) (p : Nat × Value), (parts.toList.map fun x => (x.1, a.eval x.2))[m]? = some p → ∃ q, parts.toList[m]? = some q ∧ p = (q.1, a.eval q.2) := by
  intro m p hp
  rw [List.getElem?_map] at hp
  cases hq : parts.toList[m]? with
  | none => simp [hq] at hp
  | some q => simp [hq] at hp; exact ⟨q, rfl, hp.symm⟩
 obtain ⟨out, hf1, hf2, _, hf4⟩ := fill_rows κ.sz (parts.toList.map fun x => (x.1, a.eval x.2)) 0 cs (fun m p hp => by
  obtain ⟨q, hq, rfl⟩ := hps m p hp
  obtain ⟨q1, q2, _⟩ := hys m q hq
  exact ⟨q1, q2⟩) (by simp only [List.length_map, Nat.zero_add, hlen, hcsz, hsz]; exact Nat.le_refl _)
 have hle : ¬ (len * ie.size > 2 ^ 24) := by simpa using hbig
 have hrun : (execOp a.eval o).run P w = .ok (.value (.slice (some ⟨w.heap.size, 0, none⟩) len len)) (w.alloc (.cells out E)) := by
  have : (Instr.buildSlice T len (parts.map fun x => (x.1, a.eval x.2))).run P w = .ok (.slice (some ⟨w.heap.size, 0, none⟩) len len) (w.alloc (.cells out E)) := by
   by_cases h0 : len * ie.size = 0
   · rw [if_pos h0] at hzc'
     subst hzc'
     simp only [Instr.buildSlice, Sem.run_bind, run_und hdd, Result.andThen_ok, run_sizeOf (hτ E ie hE), h0, if_true, pure_bind]
     rw [h0] at hcs
     simp only [Array.toList_map, hsz, ← hcs, hf1, newRow]
     rfl
   · rw [if_neg h0] at hzc'
     subst hzc'
     simp only [Instr.buildSlice, Sem.run_bind, run_und hdd, Result.andThen_ok, run_sizeOf (hτ E ie hE), if_neg hle, if_neg h0, hz, Sem.run_pure]
     rw [hsz] at hcs
     simp only [Array.toList_map, hsz, ← hcs, hf1, newRow]
     rfl
  simp only [execOp, hop, Sem.run_bind]
  rw [this]; rfl
 unfold Oper.wp
 rw [hrun]
 simp only [Oper.upon, hdst]
 have hlenE : len = ys.length := by rw [hyl, hlen]
 subst hlenE
 have hmax : ys.length ≤ maxLen := by
  have : ys.length * 1 ≤ ys.length * ie.size := Nat.mul_le_mul_left _ (by omega)
  unfold maxLen; omega
 refine hn _ _ _ hK (hR'.newTreeF (w' := w.alloc (.cells out E)) (Fk := Fs) ht rfl rfl rfl rfl (Nat.le_refl _) hmax (Nat.le_of_eq (Eq.symm (by rw [hf2, hcsz, hsz]))) (fun k j x _ _ hx => hFr k j x hx) (fun k j k' j' x _ _ _ _ hx hy => hDs k j k' j' x hx hy) (fun k j hk hj => ?_))
 have hkp : k < parts.toList.length := by omega
 obtain ⟨_, _, q3⟩ := hys k _ (List.getElem?_eq_getElem hkp)
 obtain ⟨c, hc1, hc2⟩ := q3 j hj
 refine ⟨c, ?_, hc2⟩
 have := hf4 k (parts.toList[k].1, a.eval parts.toList[k].2) (by rw [List.getElem?_map, List.getElem?_eq_getElem hkp]; rfl) j hj
 rw [Nat.zero_add] at this
 rw [Array.getElem?_toList, this]; exact hc1
theorem RepT.view {κ : K} {l : List κ.T} {u : Value} {F : Nat → Prop} (hr : RepT h (.seq κ l) u F) : (l.length = 0 ∧ u = .slice none 0 0) ∨
 ∃ b cap T cs Fk, u = .slice (some ⟨b, 0, none⟩) l.length cap ∧ l.length ≤ cap ∧ cap ≤ maxLen ∧ F b ∧ h[b]? = some (.cells cs T (0, 0)) ∧ cap * κ.sz ≤ cs.size ∧
  (∀ k j x, k < l.length → j < κ.sz → Fk k j x → F x ∧ x ≠ b) ∧ (∀ k j k' j' x, k < l.length → j < κ.sz → k' < l.length → j' < κ.sz → Fk k j x → Fk k' j' x → k = k' ∧ j = j') ∧
  ReadsT h κ l cs.toList Fk := by
 cases hr with
 | nil κ l hl => exact .inl ⟨hl, rfl⟩
 | seq κ l b cap T cs cf Fk F hcap hmax hb hh hsz hsub hdis hc hr =>
  exact .inr ⟨b, cap, T, cs, Fk, rfl, hcap, hmax, hb, hh, hsz, hsub, hdis, fun k j hk hj => ⟨cf k j, by simpa using hc k j hk hj, hr k j hk hj⟩⟩
theorem ReadsT.take {κ : K} {l : List κ.T} {cs : List Value} {Fk : Nat → Nat → Nat → Prop} (hr : ReadsT h κ l cs Fk) : ReadsT h κ l (cs.take (l.length * κ.sz)) Fk := fun k j hk hj => by
 obtain ⟨c, h1, h2⟩ := hr k j hk hj
 exact ⟨c, by rw [List.getElem?_take_of_lt (idx_lt hk hj)]; exact h1, h2⟩
theorem ReadsT.one {κ : K} {l : List κ.T} {cs : List Value} {Fk : Nat → Nat → Nat → Prop} (hr : ReadsT h κ l cs Fk) (hl : cs.length = l.length * κ.sz) : ∀ u ∈ cs, u.oneCell' = true := by
 intro u hu
 obtain ⟨x, hx⟩ := List.getElem?_of_mem hu
 have hxl := (List.getElem?_eq_some_iff.1 hx).1
 rw [hl] at hxl
 have hpos := κ.sz_pos
 obtain ⟨c, h1, h2⟩ := hr (x / κ.sz) (x % κ.sz) ((Nat.div_lt_iff_lt_mul hpos).2 hxl) (Nat.mod_lt _ hpos)
 have e : x / κ.sz * κ.sz + x % κ.sz = x := by rw [Nat.mul_comm]; exact Nat.div_add_mod x κ.sz
 rw [e, hx] at h1; cases h1
 exact (h2.melt (Im := fun _ _ => True) (fun _ _ _ => trivial)).one
theorem aappendT_ok (hτ : TysOk P τ) {o : Oper} {T id2 : Nat} {x y : Operand} {K : AState → Prop} (hop : o.op = .call { callee := .builtin .append, args := #[x, y], argTypes := #[T, T] })
 (hy : ev S y = .row id2) (h : aappendT τ S o.dst T (ev S x) id2 K)
 (hR : Rel w0 G Im0 S ρ Im a w) {next : Act → World → Prop} {Q : Exit → Act → World → Prop}
 (hn : ∀ S' a' w', K S' → RelE w0 G Im0 S' a' w' → next a' w') : o.wp P a w next Q := by
 unfold aappendT at h
 have hxv := ev_rel hR x
 have hyv := ev_rel hR y
 rw [hy] at hyv
 cases hdst : o.dst with
 | none => simp [hdst] at h
 | some t =>
  cases hT : τ T with
  | none => simp [hdst, hT] at h
  | some i =>
   simp only [hdst, hT] at h
   obtain ⟨d, hdd, _, hdesc⟩ := (hτ T i hT).und
   cases hd : i.desc <;> simp only [hd] at h hdesc <;> try exact h.elim
   rename_i E κ
   subst hdesc
   cases hTE : τ E with
   | none => simp [hTE] at h
   | some ie =>
    simp only [hTE] at h
    cases hs : Nat.beq ie.size κ.sz with
    | false => simp [hs] at h
    | true =>
     simp only [hs] at h
     have hsz : ie.size = κ.sz := Nat.eq_of_beq_eq_true hs
     obtain ⟨S1, d1, F1, h1, hR1, hd1, hF1, hK1, hsub1⟩ := takeD_ok h hR hxv
     obtain ⟨S2, d2, F2, h2, hR2, hd2, hF2, hK2, hsub2⟩ := takeD_ok h1 hR1 hyv
     have hF1' : ∀ z, F1 z → Free w0 G S2.blk ρ Im w z := fun z hz => (hF1 z hz).mono hsub2
     have far : ∀ z, F1 z → ¬ F2 z := fun z hz hz2 => by
      obtain ⟨i, r, e1, _, e3, e4⟩ := hK2 z hz2
      exact (hF1 z hz).far i r e1 e3 e4
     cases d1 <;> try exact h2.elim
     cases d2 <;> try exact h2.elim
     rename_i κ1 l κ2 m
     simp only at h2
     by_cases hκ1 : κ1 = κ
     case neg => simp [hκ1] at h2
     by_cases hκ2 : κ2 = κ
     case neg => simp [hκ1, hκ2] at h2
     have eκ1 : κ = κ1 := hκ1.symm
     have eκ2 : κ = κ2 := hκ2.symm
     subst eκ1 eκ2
     simp only [dite_true] at h2
     obtain ⟨⟨hb1, hb2⟩, hnew⟩ := h2
     obtain ⟨n, tm, blk, rfl, ht, hK⟩ := new_ok hnew
     obtain ⟨xi, z, hxi, hxs, hxb, hxz, hzc⟩ := (hτ E ie hTE).info
     have hzsz : z.cells.size = κ.sz := by rw [hzc, List.size_toArray, (hτ E ie hTE).zsz, hsz]
     have hpos : 0 < κ.sz := κ.sz_pos
     have fin : ∀ {v : Value} {w' : World} {S' : AState}, (Builtin.append_ #[T, T] o.type #[a.eval x, a.eval y]).run P w = .ok v w' → K S' → RelE w0 G Im0 S' (a.put (some t) v) w' → o.wp P a w next Q := by
      intro v w' S' hr hK hrel
      unfold Oper.wp
      rw [run_append_op hop hr]
      simp only [Oper.upon, hdst]
      exact hn _ _ _ hK hrel
     by_cases h0 : m.length = 0
     · have hm0 : m = [] := List.eq_nil_of_length_eq_zero h0
       have hye : ∃ ad c, a.eval y = .slice ad 0 c := by
        rcases hd2.view with ⟨_, e⟩ | ⟨b, cap, _, _, _, e, _⟩
        · exact ⟨_, _, e⟩
        · exact ⟨some ⟨b, 0, none⟩, cap, by rw [e, h0]⟩
       obtain ⟨ad, c, hye⟩ := hye
       subst hm0
       simp only [List.append_nil] at hK
       rcases hd1.view with ⟨hl0, e⟩ | ⟨b, cap, T0, cs, Fk, e, hcap, hmax, hFb, hh, hcsz, hsub, hdis, hrd⟩
       · refine fin ?_ hK (hR2.nilTree ht hl0)
         rw [e, hye]
         exact run_append_none hdd (hτ E ie hTE) o.type none (by simp) 0 0 (Nat.le_refl _) ad c
       · refine fin (by rw [e, hye]; exact run_append_none hdd (hτ E ie hTE) o.type _ (by simp) _ _ hcap ad c) hK
          (hR2.treeAt (Fk := Fk) (cs := cs) ht (hF1' b hFb) hh hcap hmax hcsz (fun k j x hk hj hx => ⟨hF1' x (hsub k j x hk hj hx).1, (hsub k j x hk hj hx).2⟩) hdis hrd)
     · rcases hd2.view with ⟨hm0, _⟩ | ⟨b2, cap2, T2, cs2, Fk2, hye, hcap2, hmax2, hFb2, hh2, hcsz2, hsub2', hdis2, hrd2⟩
       · exact absurd hm0 h0
       have hle2 : m.length * κ.sz ≤ cs2.size := Nat.le_trans (Nat.mul_le_mul_right _ hcap2) hcsz2
       have hrd2' := hrd2.take
       have hnl : (cs2.toList.take (m.length * κ.sz)).length = m.length * κ.sz := by simp; omega
       have hn1 := hrd2'.one hnl
       have hnc : ∀ j v, (cs2.toList.take (m.length * κ.sz))[j]? = some v → w.cell? ((⟨b2, 0, none⟩ : Addr).add j) = some v := fun j v hv => by
        have hj := (List.getElem?_eq_some_iff.1 hv).1
        rw [hnl] at hj
        rw [List.getElem?_take_of_lt hj] at hv
        rw [Addr.add_some, cell?_eq, Nat.zero_add]
        simp only [hcell, hh2]; simpa using hv
       generalize hnews : cs2.toList.take (m.length * κ.sz) = news at hrd2' hnl hn1 hnc
       have hFm : ∀ k j x, k < m.length → j < κ.sz → Fk2 k j x → Free w0 G blk ρ Im w x := fun k j x hk hj hx => hF2 x (hsub2' k j x hk hj hx).1
       rcases hd1.view with ⟨hl0, hxe⟩ | ⟨b, cap, T0, cur, Fk, hxe, hcap, hmax, hFb, hh, hcsz, hsub, hdis, hrd⟩
       · have hl : l = [] := List.eq_nil_of_length_eq_zero hl0
         subst hl
         simp only [List.nil_append] at hK
         have hb2' : m.length ≤ maxLen := by simpa using hb2
         have hb63 : (m.length : Int) ≤ 9223372036854775807 := by unfold maxLen at hb2'; omega
         have hrun := run_append_nil (P := P) w T o.type E xi z hdd hxi hxz ⟨b2, 0, none⟩ m.length cap2 news (by rw [hnl, hxs, hsz]) hnc (by omega) hb63 (by rw [hxb]; simp only [List.length_nil, Nat.zero_add] at hb1; omega)
         refine fin (by rw [hxe, hye]; exact hrun) hK (hR2.newTreeF (w' := w.drew.alloc (.cells (news.toArray ++ Builtin.zeroCells z.cells (grownCap w m.length 0 E - m.length)) E)) (cs := news.toArray ++ Builtin.zeroCells z.cells (grownCap w m.length 0 E - m.length)) (Fk := Fk2) ht rfl rfl rfl rfl (grownCap_ge w _ 0 E) (grownCap_le_maxLen w _ 0 E hb2') ?_ hFm hdis2 ?_)
         · have := grownCap_ge w m.length 0 E
           refine Nat.le_of_eq (Eq.symm ?_)
           simp only [Array.size_append, List.size_toArray, size_zeroCells, hzsz, hnl, ← Nat.add_mul]
           congr 1; omega
         · intro k j hk hj
           obtain ⟨c, hc1, hc2⟩ := hrd2' k j hk hj
           refine ⟨c, ?_, hc2⟩
           have hlt := (List.getElem?_eq_some_iff.1 hc1).1
           rw [Array.toList_append, List.getElem?_append_left (by simpa using hlt)]
           exact hc1
       · -- both have elements
         have hlen : (l ++ m).length = l.length + m.length := List.length_append
         have htl : (cur.toList.take (l.length * κ.sz)).length = l.length * κ.sz := by
          have : l.length * κ.sz ≤ cap * κ.sz := Nat.mul_le_mul_right _ hcap
          simp; omega
         obtain ⟨Fa, hFa⟩ : ∃ Fa : Nat → Nat → Nat → Prop, Fa = fun k j => if k < l.length then Fk k j else Fk2 (k - l.length) j := ⟨_, rfl⟩
         have hFa1 : ∀ k j x, k < (l ++ m).length → j < κ.sz → Fa k j x → (k < l.length ∧ Fk k j x) ∨ (¬ k < l.length ∧ k - l.length < m.length ∧ Fk2 (k - l.length) j x) := fun k j x hk hj hx => by
          rw [hlen] at hk
          subst hFa
          by_cases hkl : k < l.length
          · simp only [if_pos hkl] at hx; exact .inl ⟨hkl, hx⟩
          · simp only [if_neg hkl] at hx; exact .inr ⟨hkl, by omega, hx⟩
         have hFaF : ∀ k j x, k < (l ++ m).length → j < κ.sz → Fa k j x → Free w0 G blk ρ Im w x ∧ x ≠ b := fun k j x hk hj hx => by
          rcases hFa1 k j x hk hj hx with ⟨q1, q2⟩ | ⟨_, q1, q2⟩
          · exact ⟨hF1' x (hsub k j x q1 hj q2).1, (hsub k j x q1 hj q2).2⟩
          · exact ⟨hFm _ j x q1 hj q2, fun e => far b hFb (e ▸ (hsub2' _ j x q1 hj q2).1)⟩
         have hFaD : ∀ k j k' j' x, k < (l ++ m).length → j < κ.sz → k' < (l ++ m).length → j' < κ.sz → Fa k j x → Fa k' j' x → k = k' ∧ j = j' := fun k j k' j' x hk hj hk' hj' hx hx' => by
          rcases hFa1 k j x hk hj hx with ⟨q1, q2⟩ | ⟨q0, q1, q2⟩
          · rcases hFa1 k' j' x hk' hj' hx' with ⟨p1, p2⟩ | ⟨_, p1, p2⟩
            · exact hdis k j k' j' x q1 hj p1 hj' q2 p2
            · exact absurd (hsub2' _ j' x p1 hj' p2).1 (far x (hsub k j x q1 hj q2).1)
          · rcases hFa1 k' j' x hk' hj' hx' with ⟨p1, p2⟩ | ⟨p0, p1, p2⟩
            · exact absurd (hsub2' _ j x q1 hj q2).1 (far x (hsub k' j' x p1 hj' p2).1)
            · have := hdis2 _ j _ j' x q1 hj p1 hj' q2 p2
              exact ⟨by omega, this.2⟩
         by_cases hroom : l.length + m.length ≤ cap
         · have hfit : l.length * xi.size + news.length ≤ cur.size := by
            rw [hnl, hxs, hsz, ← Nat.add_mul]; exact Nat.le_trans (Nat.mul_le_mul_right _ hroom) hcsz
           have hrun := run_append_room' (P := P) w T o.type E T0 xi hdd hxi b l.length cap cur hh ⟨b2, 0, none⟩ m.length cap2 news (by rw [hnl, hxs, hsz]) hnc hn1 hroom hfit
           rw [hxs, hsz] at hrun hfit
           have hos := setRow_os w b (over cur (l.length * κ.sz) news)
           have hf := hF1' b hFb
           have hR3 := hR2.mem (w' := w.setRow b (over cur (l.length * κ.sz) news)) (Im' := Im) hf.lt hf.own (fun j s x hj hs hx e => hf.far j s hj hs (e ▸ hx)) (fun k hk => setRow_other w b k _ hk)
            (fun o hI => absurd hI (hf.im o)) (by rw [hos.2.2.2]; exact Nat.le_refl _) hos.1 hos.2.1 hos.2.2.1 (fun _ _ x => x) (fun _ _ x => .inl x)
           have hg : w.heap.size ≤ (w.setRow b (over cur (l.length * κ.sz) news)).heap.size := by rw [hos.2.2.2]; exact Nat.le_refl _
           have key := hR3.treeAt (E := E) (cap := cap) (l := l ++ m) (Fk := Fa) ht (hf.after hg) (setRow_heap w b cur _ T0 _ hh) (by rw [hlen]; exact hroom) hmax (by rw [over_size _ _ _ hfit]; exact hcsz)
            (fun k j x hk hj hx => ⟨(hFaF k j x hk hj hx).1.after hg, (hFaF k j x hk hj hx).2⟩) hFaD (fun k j hk hj => by
             have := ReadsT.append htl hrd.take hrd2' (cur.toList.drop (l.length * κ.sz + news.length)) k j hk hj
             obtain ⟨c, hc1, hc2⟩ := this
             refine ⟨c, by simpa [over] using hc1, ?_⟩
             have hc3 : RepT w.heap (cellOf κ (l ++ m) k j) c (Fa k j) := by rw [hFa]; exact hc2
             exact hc3.mono fun x hx => setRow_other w b x _ (hFaF k j x hk hj hx).2)
           rw [hlen] at key
           exact fin (by rw [hxe, hye]; exact hrun) hK key
         · have holds : ∀ j v, (cur.toList.take (l.length * κ.sz))[j]? = some v → w.cell? ((⟨b, 0, none⟩ : Addr).add j) = some v := fun j v hv => by
            have hj := (List.getElem?_eq_some_iff.1 hv).1
            rw [htl] at hj
            rw [List.getElem?_take_of_lt hj] at hv
            rw [Addr.add_some, cell?_eq, Nat.zero_add]
            simp only [hcell, hh]; simpa using hv
           have hneed : l.length + m.length ≤ maxLen := hb2
           have hrun := run_append_grow (P := P) w T o.type E xi z hdd hxi hxz ⟨b, 0, none⟩ l.length cap (cur.toList.take (l.length * κ.sz)) (by rw [htl, hxs, hsz]) holds ⟨b2, 0, none⟩ m.length cap2 news (by rw [hnl, hxs, hsz]) hnc
            (by omega) (by unfold maxLen at hneed; omega) (growslice_fits (by omega) (by rw [hxb]; exact hb1))
           have key := hR2.newTreeF (t := t) (E := E) (κ := κ) (l := l ++ m) (Fk := Fa) (cap := grownCap w (l.length + m.length) cap E) (w' := w.drew.alloc (.cells ((cur.toList.take (l.length * κ.sz)).toArray ++ news.toArray ++ Builtin.zeroCells z.cells (grownCap w (l.length + m.length) cap E - (l.length + m.length))) E)) ht rfl rfl rfl rfl
            (by rw [hlen]; exact grownCap_ge w _ _ _) (grownCap_le_maxLen w _ _ _ hneed) (by
             have := grownCap_ge w (l.length + m.length) cap E
             refine Nat.le_of_eq (Eq.symm ?_)
             simp only [Array.size_append, List.size_toArray, size_zeroCells, hzsz, hnl, htl, ← Nat.add_mul]
             congr 1; omega) (fun k j x hk hj hx => (hFaF k j x hk hj hx).1) hFaD
            (fun k j hk hj => by
             have := ReadsT.append htl hrd.take hrd2' (Builtin.zeroCells z.cells (grownCap w (l.length + m.length) cap E - (l.length + m.length))).toList k j hk hj
             obtain ⟨c, hc1, hc2⟩ := this
             exact ⟨c, by simpa using hc1, by rw [hFa]; exact hc2⟩)
           rw [hlen] at key
           exact fin (by rw [hxe, hye]; exact hrun) hK key
end
end Vg
