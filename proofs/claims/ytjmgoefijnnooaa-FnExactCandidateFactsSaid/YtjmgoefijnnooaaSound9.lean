/- Operations that make or turn memory. -/
import Derived.Test.YtjmgoefijnnooaaSound8
import Derived.Laws.MakeOwn
namespace Vg
open Go

section
variable {P : Program} {τ : Tys} {Im Im' : Nat → Nat → Prop} {ρ ρ' : Rho} {h h' : Array Obj} {w w' : World}
variable {w0 : World} {G : GP} {Im0 : Nat → Nat → Prop} {S : AState} {a : Act} {n : Nat} {tm : Nat → AV} {blk : Nat → Option Blk}

theorem heap_push_lt {h : Array Obj} {o : Obj} {b : Nat} (hb : b < h.size) : (h.push o)[b]? = h[b]? := by
  rw [Array.getElem?_push, if_neg (by omega)]
theorem heap_push_new (h : Array Obj) (o : Obj) : (h.push o)[h.size]? = some o := by simp

/-- a box -/
theorem Rel.newBox (hR : Rel w0 G Im0 ⟨n, tm, blk⟩ ρ Im a w) {t T : Nat} (ht : t < n ∧ t < 900000) {cells : List AV} {cs : Array Value}
    (hc : CellsR (updR ρ t (some (.at w.heap.size 0 0))) w.heap Im cells cs) :
    Rel w0 G Im0 ⟨n, updT (killT tm t) t (.ptr t 0), updB (killB blk t) t (some (.box cells))⟩ (updR ρ t (some (.at w.heap.size 0 0))) Im
      (a.put (some t) (.pointer (some ⟨w.heap.size, 0, none⟩))) (w.alloc (.cells cs T)) := by
  have hlt : ∀ b o, Im b o → hcell (w.alloc (.cells cs T)).heap b o = hcell w.heap b o := fun b o hI => hcell_of_block (heap_push_lt (hR.env.imlt b o hI)) o
  refine hR.new ht (fun b hb => heap_push_lt hb) (by rw [World.size_alloc]; omega) rfl rfl rfl (fun r hr => ?_) ?_ rfl ?_
  · cases hr; exact ⟨Nat.le_refl _, fun _ h => h⟩
  · refine ⟨_, cs, T, updR_same _ _ _, heap_push_new _ _, hc.1, fun j x hx => ?_⟩
    obtain ⟨c, h1, h2⟩ := hc.2 j x hx
    exact ⟨c, h1, h2.mono hlt (fun _ _ x => x)⟩
  · exact .ptr t 0 (.at w.heap.size 0 0) (updR_same _ _ _)

theorem run_newVar (T : Nat) (v : Value) (w : World) : (newVar T v).run P w = .ok ⟨w.heap.size, 0, none⟩ (w.alloc (.cells v.cells T)) := by
  simp [newVar, newRow]

theorem alloc_ok (hτ : TysOk P τ) {o : Oper} {T t : Nat} {i : TyI} {K : AState → Prop} (hop : o.op = .alloc T) (hdst : o.dst = some t) (hT : τ T = some i)
    (h : S.new t (.box (i.zero.map constC)) (.ptr t 0) K) (hR : Rel w0 G Im0 S ρ Im a w) {next : Act → World → Prop} {Q : Exit → Act → World → Prop}
    (hn : ∀ S' a' w', K S' → RelE w0 G Im0 S' a' w' → next a' w') : o.wp P a w next Q := by
  obtain ⟨n, tm, blk, rfl, ht, hK⟩ := new_ok h
  obtain ⟨z, hz, hzc⟩ := run_zero (hτ T i hT) w
  have hz' : (zeroValue T).run P w = .ok z w := hz
  unfold Oper.wp
  have hrun : (execOp a.eval o).run P w = .ok (.value (.pointer (some ⟨w.heap.size, 0, none⟩))) (w.alloc (.cells z.cells T)) := by
    simp only [execOp, hop, Instr.alloc, Sem.run_bind, hz', Result.andThen_ok, run_newVar, Sem.run_pure]
  rw [hrun]
  simp only [Oper.upon, hdst]
  exact hn _ _ _ hK ⟨_, _, hR.newBox ht (by rw [hzc]; exact zero_cells _)⟩

theorem box_ok {o : Oper} {T t : Nat} {x : Operand} {vs : List AV} {K : AState → Prop} (hop : o.op = .box T x) (hdst : o.dst = some t) (hx : (ev S x).cells1 = some vs)
    (h : S.new t (.box (vs.map (AV.killC t))) (.ptr t 0) K) (hR : Rel w0 G Im0 S ρ Im a w) {next : Act → World → Prop} {Q : Exit → Act → World → Prop}
    (hn : ∀ S' a' w', K S' → RelE w0 G Im0 S' a' w' → next a' w') : o.wp P a w next Q := by
  have hE := (ev_rel hR x).cells1 hx
  obtain ⟨n, tm, blk, rfl, ht, hK⟩ := new_ok h
  unfold Oper.wp
  have hrun : (execOp a.eval o).run P w = .ok (.value (.pointer (some ⟨w.heap.size, 0, none⟩))) (w.alloc (.cells (a.eval x).cells T)) := by
    simp only [execOp, hop, Instr.box, Sem.run_bind, Result.andThen_ok, run_newVar, Sem.run_pure]
  rw [hrun]
  simp only [Oper.upon, hdst]
  refine hn _ _ _ hK ⟨_, _, hR.newBox ht ⟨by simpa using hE.1, fun j y hy => ?_⟩⟩
  rw [List.getElem?_map] at hy
  cases hj : vs[j]? with
  | none => simp [hj] at hy
  | some z =>
    simp [hj] at hy; subst hy
    obtain ⟨c, h1, h2⟩ := hE.2 j z hj
    exact ⟨c, h1, h2.killC (fun k hk => updR_ne _ hk)⟩

/-! ### data that goes into other memory -/
theorem datF1_ok {z : Dat} {v : AV} {u : Value} {K : AState → Dat → Prop} (h : datF1 S z v K) (hR : Rel w0 G Im0 S ρ Im a w) (hv : AVR ρ w.heap Im v u) :
    ∃ S' d Im', K S' d ∧ Rel w0 G Im0 S' ρ Im' a w ∧ (∀ b o, Im b o → Im' b o) ∧ RepD w.heap Im' d u := by
  unfold datF1 at h
  split at h
  · cases hv with | dat _ _ hd => exact ⟨S, _, Im, h, hR, fun _ _ x => x, hd⟩
  · split at h
    · obtain rfl := nils_val hv
      exact ⟨S, _, Im, h, hR, fun _ _ x => x, .empty _ _ rfl none 0⟩
    · exact h.elim
  · rename_i i
    obtain ⟨n, tm, blk⟩ := S
    simp only at h
    split at h
    · rename_i T κ l sh hB
      obtain ⟨Im', h1, h2, h3⟩ := hR.freeze hB
      exact ⟨_, _, Im', h, h1, h2, h3 u hv⟩
    · rename_i T κ l hB
      obtain ⟨Im', h1, h2, h3⟩ := hR.melt hB
      exact ⟨_, _, Im', h, h1, h2, h3 u hv⟩
    · exact h.elim
  · exact h.elim

theorem datFs_ok : ∀ (zs : List Dat) (vs : List AV) (S : AState) (Im : Nat → Nat → Prop) (cf : Nat → Value) (K : AState → List Dat → Prop), datFs zs vs S K → Rel w0 G Im0 S ρ Im a w →
    (∀ j v, vs[j]? = some v → AVR ρ w.heap Im v (cf j)) →
    ∃ S' ds Im', K S' ds ∧ Rel w0 G Im0 S' ρ Im' a w ∧ (∀ b o, Im b o → Im' b o) ∧ ds.length = vs.length ∧ vs.length = zs.length ∧ ∀ j d, ds[j]? = some d → RepD w.heap Im' d (cf j)
  | [], [], S, Im, cf, K, h, hR, _ => ⟨S, [], Im, h, hR, fun _ _ x => x, rfl, rfl, by simp⟩
  | z :: zs, v :: vs, S, Im, cf, K, h, hR, hv => by
    simp only [datFs] at h
    obtain ⟨S1, d, Im1, h1, hR1, hI1, hd⟩ := datF1_ok h hR (hv 0 v rfl)
    obtain ⟨S2, ds, Im2, h2, hR2, hI2, hl, hl', hds⟩ := datFs_ok zs vs S1 Im1 (fun j => cf (j + 1)) _ h1 hR1 (fun j x hx => (hv (j + 1) x (by simpa using hx)).mono (fun _ _ _ => rfl) hI1)
    refine ⟨S2, d :: ds, Im2, h2, hR2, fun b o x => hI2 b o (hI1 b o x), by simp [hl], by simp [hl'], fun j x hx => ?_⟩
    cases j with
    | zero => simp at hx; subst hx; exact hd.mono (fun _ _ _ => rfl) hI2
    | succ j => simp at hx; exact hds j x hx
  | [], _ :: _, _, _, _, _, h, _, _ => h.elim
  | _ :: _, [], _, _, _, _, h, _, _ => h.elim

/-- an element out of its cells, as the row reads it -/
theorem enc_of_dec {κ : K} {ds : List Dat} {y : κ.T} (h : κ.dec ds = some y) (j : Nat) (hj : j < κ.sz) : ∃ d, ds[j]? = some d ∧ (κ.enc y).getD j (.bool false) = d := by
  have e := K.dec_enc h
  have hl := κ.enc_length y
  rw [e] at hl
  refine ⟨ds[j], List.getElem?_eq_getElem (by omega), ?_⟩
  rw [e, List.getD_eq_getElem?_getD, List.getElem?_eq_getElem (by omega)]; rfl

/-- the elements of a literal, one behind the other -/
theorem elemsF_ok {κ : K} {zs : List Dat} {e : Operand → AV} (hz : zs.length = κ.sz) (hE : ∀ x, AVR ρ w.heap Im (e x) (a.eval x)) :
    ∀ (k : Nat) (parts : List (Nat × Operand)) (S : AState) (Im1 : Nat → Nat → Prop) (K : AState → List κ.T → Prop), elemsF κ zs e k parts S K → Rel w0 G Im0 S ρ Im1 a w → (∀ b o, Im b o → Im1 b o) →
      ∃ S' ys Im', K S' ys ∧ Rel w0 G Im0 S' ρ Im' a w ∧ (∀ b o, Im1 b o → Im' b o) ∧ ys.length = parts.length ∧
        ∀ (m : Nat) (p : Nat × Operand), parts[m]? = some p → p.1 = k + m ∧ (a.eval p.2).cells.size = κ.sz ∧
          ∀ j, j < κ.sz → ∃ c, (a.eval p.2).cells[j]? = some c ∧ RepD w.heap Im' (cellOf κ ys m j) c
  | k, [], S, Im1, K, h, hR, _ => ⟨S, [], Im1, h, hR, fun _ _ x => x, rfl, by simp⟩
  | k, (i, x) :: rest, S, Im1, K, h, hR, hI => by
    simp only [elemsF] at h
    cases hb : Nat.beq i k with
    | false => simp [hb] at h
    | true =>
      simp only [hb] at h
      have hik : i = k := Nat.eq_of_beq_eq_true hb
      cases hc : (e x).cells1 with
      | none => simp [hc] at h
      | some vs =>
        simp only [hc] at h
        have hv := ((hE x).mono (h' := w.heap) (Im' := Im1) (fun _ _ _ => rfl) hI).cells1 hc
        obtain ⟨S1, ds, Im2, h1, hR1, hI1, hl, hl', hds⟩ := datFs_ok zs vs S Im1 (fun j => (a.eval x).cells.getD j undef) _ h hR (fun j y hy => by
          obtain ⟨c, h1, h2⟩ := hv.2 j y hy
          simpa [h1] using h2)
        cases hd : κ.dec ds with
        | none => simp [hd] at h1
        | some y =>
          simp only [hd] at h1
          obtain ⟨S2, ys, Im3, h2, hR2, hI2, hyl, hys⟩ := elemsF_ok hz hE (k + 1) rest S1 Im2 _ h1 hR1 (fun b o x => hI1 b o (hI b o x))
          refine ⟨S2, y :: ys, Im3, h2, hR2, fun b o x => hI2 b o (hI1 b o x), by simp [hyl], fun m p hp => ?_⟩
          cases m with
          | zero =>
            simp at hp; subst hp
            have hsz : (a.eval x).cells.size = κ.sz := by rw [hv.1, hl', hz]
            refine ⟨hik, hsz, fun j hj => ?_⟩
            obtain ⟨d, hd1, hd2⟩ := enc_of_dec hd j hj
            have hlt : j < (a.eval x).cells.size := by omega
            refine ⟨(a.eval x).cells[j], Array.getElem?_eq_getElem hlt, ?_⟩
            have := hds j d hd1
            simp only [Array.getD_eq_getD_getElem?, Array.getElem?_eq_getElem hlt, Option.getD_some] at this
            simp only [cellOf, List.getD_cons_zero, hd2]
            exact this.mono (fun _ _ _ => rfl) hI2
          | succ m =>
            simp at hp
            obtain ⟨q1, q2, q3⟩ := hys m p hp
            exact ⟨by omega, q2, q3⟩

/-- rows laid one behind the other -/
theorem fill_rows (sz : Nat) : ∀ (parts : List (Nat × Value)) (k : Nat) (cs : Array Value), (∀ m p, parts[m]? = some p → p.1 = k + m ∧ p.2.cells.size = sz) → (k + parts.length) * sz ≤ cs.size →
    ∃ out, Instr.fill (fun i => some (i * sz, sz)) cs parts = some out ∧ out.size = cs.size ∧ (∀ x, x < k * sz → out[x]? = cs[x]?) ∧
      ∀ m p, parts[m]? = some p → ∀ j, j < sz → out[(k + m) * sz + j]? = p.2.cells[j]?
  | [], k, cs, _, _ => ⟨cs, rfl, rfl, fun _ _ => rfl, by simp⟩
  | (i, v) :: rest, k, cs, hp, hsz => by
    obtain ⟨hi, hv⟩ := hp 0 (i, v) rfl
    simp only [Nat.add_zero] at hi
    subst hi
    have hle : i * sz + sz ≤ cs.size := by
      have : (i + 1) * sz ≤ (i + (rest.length + 1)) * sz := Nat.mul_le_mul_right _ (by omega)
      rw [Nat.add_mul] at this
      simp only [List.length_cons] at hsz
      omega
    simp only at hv
    have e : v.cells.zipIdx.foldl (fun cs (x : Value × Nat) => cs.setIfInBounds (i * sz + x.2) x.1) cs = (v.cells.toList.zipIdx 0).foldl (fun cs (x : Value × Nat) => cs.setIfInBounds (i * sz + x.2) x.1) cs := by
      rw [← Array.foldl_toList, Array.toList_zipIdx]
    have hs1 := fold_size (i * sz) v.cells.toList 0 cs
    have hg1 := fold_get (i * sz) v.cells.toList 0 cs
    obtain ⟨out, h1, h2, h3, h4⟩ := fill_rows sz rest (i + 1) ((v.cells.toList.zipIdx 0).foldl (fun cs (x : Value × Nat) => cs.setIfInBounds (i * sz + x.2) x.1) cs)
      (fun m p hm => by have := hp (m + 1) p (by simpa using hm); exact ⟨by omega, this.2⟩)
      (by rw [hs1, show i + 1 + rest.length = i + (rest.length + 1) from by omega]; exact hsz)
    have hl : v.cells.toList.length = sz := by simpa using hv
    refine ⟨out, ?_, by rw [h2, hs1], fun x hx => ?_, fun m p hm j hj => ?_⟩
    · have hn : ¬ (v.cells.size ≠ sz ∨ i * sz + v.cells.size > cs.size) := by omega
      simp only [Instr.fill, decide_eq_true_eq, Bool.or_eq_true, if_neg hn]
      rw [e]; exact h1
    · rw [h3 x (by rw [Nat.add_mul]; omega), hg1 x (by rw [hl]; omega), if_neg (by omega)]
    · cases m with
      | zero =>
        simp at hm; subst hm
        rw [Nat.add_zero, h3 _ (by rw [Nat.add_mul]; omega), hg1 _ (by rw [hl]; omega), if_pos (by omega)]
        simp only [Nat.add_zero, Nat.add_sub_cancel_left, Array.getElem?_toList]
      | succ m =>
        simp at hm
        have := h4 m p hm j hj
        rwa [show i + 1 + m = i + (m + 1) from by omega] at this
end
end Vg
