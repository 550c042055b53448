/- Appends: the whole. -/
import Derived.Test.YtlopkgjiccppfaaDoorSound12
namespace Vg
open Go

section
variable {P : Program} {τ : Tys} {Im Im' : Nat → Nat → Prop} {ρ ρ' : Rho} {h h' : Array Obj} {w w' : World}
variable {w0 : World} {G : GP} {Im0 : Nat → Nat → Prop} {S : AState} {a : Act} {n : Nat} {tm : Nat → AV} {blk : Nat → Option Blk}

/-- cells in a list read as the elements of a row -/
def Reads (h : Array Obj) (Im : Nat → Nat → Prop) (κ : K) (l : List κ.T) (cs : List Value) : Prop :=
  ∀ k j, k < l.length → j < κ.sz → ∃ c, cs[k * κ.sz + j]? = some c ∧ RepD h Im (cellOf κ l k j) c

theorem idx_lt {n sz k j : Nat} (hk : k < n) (hj : j < sz) : k * sz + j < n * sz := by
  have : (k + 1) * sz ≤ n * sz := Nat.mul_le_mul_right _ hk
  rw [Nat.add_mul] at this; omega

theorem Reads.append {κ : K} {l m : List κ.T} {os ns : List Value} (ho : os.length = l.length * κ.sz) (h1 : Reads h Im κ l os) (h2 : Reads h Im κ m ns) (rest : List Value) :
    Reads h Im κ (l ++ m) (os ++ ns ++ rest) := by
  intro k j hk hj
  simp only [List.length_append] at hk
  by_cases hkl : k < l.length
  · obtain ⟨c, hc1, hc2⟩ := h1 k j hkl hj
    have := idx_lt hkl hj
    refine ⟨c, by rw [List.append_assoc, List.getElem?_append_left (by omega)]; exact hc1, ?_⟩
    have e : (l ++ m).getD k κ.dflt = l.getD k κ.dflt := by simp [List.getD_eq_getElem?_getD, List.getElem?_append_left hkl]
    simp only [cellOf, e]; exact hc2
  · obtain ⟨c, hc1, hc2⟩ := h2 (k - l.length) j (by omega) hj
    have hle := Nat.mul_le_mul_right κ.sz (Nat.le_of_not_lt hkl)
    have e0 : k * κ.sz + j - os.length = (k - l.length) * κ.sz + j := by rw [ho, Nat.sub_mul]; omega
    have hlt := (List.getElem?_eq_some_iff.1 hc1).1
    refine ⟨c, by rw [List.append_assoc, List.getElem?_append_right (by omega), e0, List.getElem?_append_left hlt]; exact hc1, ?_⟩
    have e : (l ++ m).getD k κ.dflt = m.getD (k - l.length) κ.dflt := by simp [List.getD_eq_getElem?_getD, List.getElem?_append_right (Nat.le_of_not_lt hkl)]
    simp only [cellOf, e]; exact hc2

/-- behind an append that made a new array -/
theorem Rel.grown (hR : Rel w0 G Im0 ⟨n, tm, blk⟩ ρ Im a w) {t E cap : Nat} {κ : K} {l : List κ.T} {sh : Bool} (ht : t < n ∧ t < 900000) {cs : Array Value} (hh : w'.heap = w.heap.push (.cells cs E))
    (ho : w'.os = w.os) (htp : w'.tape = w.tape) (hout : w'.output = w.output) (hcap : l.length ≤ cap) (hmax : cap ≤ maxLen) (hsz : cs.size = cap * κ.sz) (hc : Reads w.heap Im κ l cs.toList) :
    RelE w0 G Im0 ⟨n, updT (killT tm t) t (.row t), updB (killB blk t) t (some (.row E κ l sh))⟩ (a.put (some t) (.slice (some ⟨w.heap.size, 0, none⟩) l.length cap)) w' := by
  have key := hR.newRow (E := E) ht hh ho htp hout hcap hmax hsz (fun k j hk hj => by
    obtain ⟨c, h1, h2⟩ := hc k j hk hj
    exact ⟨c, by simpa using h1, h2⟩)
  cases sh with
  | false => exact ⟨_, _, key⟩
  | true =>
    obtain ⟨Im', h1, _⟩ := key.freeze (updB_same _ _ _)
    have e : updB (updB (killB blk t) t (some (.row E κ l false))) t (some (.row E κ l true)) = updB (killB blk t) t (some (.row E κ l true)) := by
      funext j
      by_cases hj : j = t
      · subst hj; rw [updB_same, updB_same]
      · rw [updB_ne _ hj, updB_ne _ hj, updB_ne _ hj]
    rw [e] at h1
    exact ⟨_, Im', h1⟩

/-- a row without elements that is nil, under a new number -/
theorem Rel.nilRow (hR : Rel w0 G Im0 ⟨n, tm, blk⟩ ρ Im a w) {t E : Nat} {κ : K} {l : List κ.T} {sh : Bool} (ht : t < n ∧ t < 900000) (hl : l.length = 0) :
    RelE w0 G Im0 ⟨n, updT (killT tm t) t (.row t), updB (killB blk t) t (some (.row E κ l sh))⟩ (a.put (some t) (.slice none 0 0)) w := by
  have h2 := hR.kill (ρ' := updR ρ t none) (i := t) (fun j hj => updR_ne _ hj)
  refine ⟨_, _, Rel.put (h2.ins (b := .row E κ l sh) (killB_same _ _) ?_ (fun r o hr => ?_) (fun r hr => ?_) (fun r j s x hr => ?_) (fun r x hr => ?_) (fun p hp => by rw [G.lt t ht.2] at hp; cases hp)) ht.1 (.rowN t (updR_same _ _ _))⟩
  · simp only [BlkR, updR_same]; exact hl
  · rw [updR_same] at hr; cases hr
  · rw [updR_same] at hr; cases hr
  · rw [updR_same] at hr; cases hr
  · rw [updR_same] at hr; cases hr

/-- a row under a new number, its memory perhaps written behind its old end -/
theorem Rel.moved (hR : Rel w0 G Im0 ⟨n, tm, blk⟩ ρ Im a w) {t E cap b0 T0 : Nat} {κ : K} {l : List κ.T} {sh : Bool} {cs : Array Value} {q : Nat} (ht : t < n ∧ t < 900000) (hlt : b0 < w.heap.size)
    (hown : G b0 ∨ w0.heap.size ≤ b0) (hfree : ∀ j s x, blk j ≠ none → ρ j = some s → s.has x → x ≠ b0)
    (hk : ∀ k, k ≠ b0 → w'.heap[k]? = w.heap[k]?) (hIm : ∀ o, Im b0 o → hcell w'.heap b0 o = hcell w.heap b0 o) (hg : w.heap.size ≤ w'.heap.size) (ho : w'.os = w.os) (htp : w'.tape = w.tape) (hout : w'.output = w.output)
    (hpin : ∀ o, Im b0 o ↔ (sh = true ∧ o < q)) (hq : q ≤ l.length * κ.sz)
    (hcap : l.length ≤ cap) (hmax : cap ≤ maxLen) (hh : w'.heap[b0]? = some (.cells cs T0 (0, 0))) (hsz : cs.size = cap * κ.sz) (hc : Reads w.heap Im κ l cs.toList) :
    RelE w0 G Im0 ⟨n, updT (killT tm t) t (.row t), updB (killB blk t) t (some (.row E κ l sh))⟩ (a.put (some t) (.slice (some ⟨b0, 0, none⟩) l.length cap)) w' := by
  have main : ∀ Im' : Nat → Nat → Prop, (∀ b o, Im b o → Im' b o) → (∀ b o, Im' b o → Im b o ∨ b = b0) → (∀ o, Im' b0 o ↔ o < (Blk.row E κ l sh).pinned) →
      RelE w0 G Im0 ⟨n, updT (killT tm t) t (.row t), updB (killB blk t) t (some (.row E κ l sh))⟩ (a.put (some t) (.slice (some ⟨b0, 0, none⟩) l.length cap)) w' := by
    intro Im' hI hI' hp
    have h1 := hR.mem (w' := w') (Im' := Im') hlt hown hfree hk hIm hg ho htp hout hI hI'
    have hce : ∀ b o, Im b o → hcell w'.heap b o = hcell w.heap b o := fun b o hb => by
      by_cases e : b = b0
      · subst e; exact hIm o hb
      · exact hcell_of_block (hk b e) o
    have h2 := h1.kill (ρ' := updR ρ t (some (.at b0 cap l.length))) (i := t) (fun j hj => updR_ne _ hj)
    refine ⟨_, _, Rel.put (h2.ins (b := .row E κ l sh) (killB_same _ _) ?_ (fun r o hr => ?_) (fun r hr => ?_) (fun r j s x hr hj hs hx hy => ?_) (fun r x hr hx => ?_) (fun p hp => by rw [G.lt t ht.2] at hp; cases hp)) ht.1 (.row t (.at b0 cap l.length) (updR_same _ _ _))⟩
    · simp only [BlkR, updR_same]
      refine ⟨trivial, hcap, hmax, cs, T0, hh, hsz, fun k j hk' hj => ?_⟩
      obtain ⟨c, hc1, hc2⟩ := hc k j hk' hj
      exact ⟨c, by simpa using hc1, hc2.mono hce hI⟩
    · rw [updR_same] at hr; cases hr; exact hp o
    · rw [updR_same] at hr; cases hr; exact ⟨fun h => h, fun x h => h.elim⟩
    · rw [updR_same] at hr; cases hr
      have hne : j ≠ t := fun e => by subst e; exact hj (killB_same _ _)
      rw [updR_ne _ hne] at hs
      refine hfree j s x (fun e => hj ?_) hs hx (hy.resolve_right (fun h => h))
      rw [killB_ne hne, e]; rfl
    · rw [updR_same] at hr; cases hr
      have e : x = b0 := hx.resolve_right (fun h => h)
      rw [e]; exact hown
  cases sh with
  | false =>
    refine main Im (fun _ _ x => x) (fun _ _ x => .inl x) (fun o => ?_)
    rw [hpin]; simp [Blk.pinned]
  | true =>
    refine main (freezeIm Im b0 (l.length * κ.sz)) (fun _ _ x => .inl x) (fun b o x => x.imp id And.left) (fun o => ?_)
    simp only [freezeIm, Blk.pinned, true_and]
    refine ⟨fun h1 => h1.elim (fun h2 => ?_) id, .inr⟩
    have := ((hpin o).1 h2).2
    omega

/-- the beginning of a row -/
theorem rslice_ok (hτ : TysOk P τ) {o : Oper} {T id : Nat} {x : Operand} {lo hi : Option Operand} {K : AState → Prop} (hop : o.op = .slice T x lo hi none) (hx : ev S x = .row id)
    (h : rslice τ S o.dst T id (lo.map (ev S)) (hi.map (ev S)) K)
    (hR : Rel w0 G Im0 S ρ Im a w) {next : Act → World → Prop} {Q : Exit → Act → World → Prop}
    (hn : ∀ S' a' w', K S' → RelE w0 G Im0 S' a' w' → next a' w') : o.wp P a w next Q := by
  unfold rslice at h
  cases lo with
  | some y => cases o.dst <;> simp at h
  | none =>
  cases hi with
  | none => cases o.dst <;> simp at h
  | some y =>
  simp only [Option.map_none, Option.map_some] at h
  cases hdst : o.dst with
  | none => simp [hdst] at h
  | some t =>
  cases e2 : ev S y <;> simp only [hdst, e2] at h <;> try exact h.elim
  rename_i dd
  cases dd <;> simp only at h <;> try exact h.elim
  rename_i k u
  split at h
  case h_2 => exact h.elim
  rename_i E κ l i hB hT
  cases hd : i.desc <;> simp only [hd] at h <;> try exact h.elim
  rename_i E' κ'
  cases hE : τ E' with
  | none => simp [hE] at h
  | some ie =>
  simp only [hE] at h
  obtain ⟨⟨hu1, hu2⟩, hnew⟩ := h
  obtain ⟨d, hdd, _, hdesc⟩ := (hτ T i hT).und
  rw [hd] at hdesc
  simp only at hdesc
  subst hdesc
  have hxv := ev_rel hR x
  rw [hx] at hxv
  have hyv := ev_rel hR y
  rw [e2] at hyv
  have hye := dat_int hyv
  have hel : P.underlying T = some (.slice (P.elem T)) := by rw [elem_eq hdd]; exact hdd
  have hso : (Go.sizeOf (P.elem T)).run P w = .ok ie.size w := by rw [elem_eq hdd]; exact run_sizeOf (hτ E' ie hE) w
  have hst : ∀ v lo hi, (Instr.sliceAt T v lo hi none).run P w = (Instr.slice T v lo hi none).run P w := fun v lo hi => run_sliceAt_slice w T v lo hi none hel
  have htl : ((l.take u.toNat).length : Nat) = u.toNat := by simp; omega
  have fin : ∀ {v : Value} {S' : AState}, (Instr.sliceAt T (a.eval x) none (some (a.eval y)) none).run P w = .ok v w → K S' → RelE w0 G Im0 S' (a.put (some t) v) w → o.wp P a w next Q := by
    intro v S' hr hK hrel
    have : (execOp a.eval o).run P w = .ok (.value v) w := by
      simp only [execOp, hop, Sem.run_bind, Option.map_none, Option.map_some]; rw [hr]; rfl
    unfold Oper.wp
    rw [this]
    simp only [Oper.upon, hdst]
    exact hn _ _ _ hK hrel
  obtain ⟨n, tm, blk⟩ := S
  simp only [AState.kill] at hnew
  obtain ⟨n', tm', blk', hSe, ht, hK⟩ := new_ok hnew
  cases hSe
  have hbl := hR.env.bl id _ hB
  have hRk := hR.kill (i := id) (ρ' := ρ) (fun _ _ => rfl)
  generalize hue : a.eval x = v at hxv
  cases hxv with
  | rowN _ hi =>
    simp only [BlkR, hi] at hbl
    have h0 : u = 0 := by omega
    subst h0
    refine fin ?_ hK (hRk.nilRow ht (by rw [htl]; rfl))
    rw [hue, hye, hst, run_slice_h w T none 0 0 hel k 0 (by omega) (by omega), hso]
    rfl
  | row _ r hi =>
    simp only [BlkR, hi] at hbl
    obtain ⟨hl1, hl2, hl3, cur, T0, hh, hcsz, hcc⟩ := hbl
    have hlt : r.b < w.heap.size := (Array.getElem?_eq_some_iff.1 hh).1
    have hownr := hR.ext.own id r r.b (by change blk id ≠ none; change blk id = _ at hB; simp [hB]) hi (.inl rfl)
    have hfree : ∀ j s x, killB blk id j ≠ none → ρ j = some s → s.has x → x ≠ r.b := fun j s x hj hs hx e => by
      have hne : j ≠ id := fun e => by subst e; exact hj (killB_same _ _)
      refine hne (hR.env.inj j id s r x (fun e' => hj ?_) (by change blk id ≠ none; change blk id = _ at hB; simp [hB]) hs hi hx (.inl e))
      change blk j = none at e'
      rw [killB_ne hne, e']; rfl
    have hpin : ∀ o, Im r.b o ↔ (false = true ∧ o < 0) := fun o => by
      rw [hR.env.imOwn id _ r o hB hi]
      simp [Blk.pinned]
    have hrun : (Instr.sliceAt T (a.eval x) none (some (a.eval y)) none).run P w = .ok (.slice (some ⟨r.b, 0, none⟩) (l.take u.toNat).length r.cap) w := by
      rw [hue, hye, hst, run_slice_h w T _ r.len r.cap hel k u hu1 (by omega), hso, htl]
      simp [sliced, Addr.add_some]
    refine fin hrun hK (hRk.moved (w' := w) (q := 0) ht hlt hownr hfree (fun _ _ => rfl) (fun _ _ => rfl) (Nat.le_refl _) rfl rfl rfl hpin (by omega) (by rw [htl]; omega) hl3 hh hcsz (fun j j' hj hj' => ?_))
    obtain ⟨c, hc1, hc2⟩ := hcc j j' (by omega) hj'
    refine ⟨c, by simpa using hc1, ?_⟩
    have e : cellOf κ (l.take u.toNat) j j' = cellOf κ l j j' := by
      unfold cellOf
      have e1 : (l.take u.toNat).getD j κ.dflt = l.getD j κ.dflt := by
        rw [List.getD_eq_getElem?_getD, List.getD_eq_getElem?_getD, List.getElem?_take_of_lt (by omega)]
      rw [e1]
    rw [e]; exact hc2

theorem run_append_op {o : Oper} {x y : Operand} {T : Nat} {v : Value} (hop : o.op = .call { callee := .builtin .append, args := #[x, y], argTypes := #[T, T] })
    (hr : (Builtin.append_ #[T, T] o.type #[a.eval x, a.eval y]).run P w = .ok v w') : (execOp a.eval o).run P w = .ok (.value v) w' := by
  simp [execOp, hop, resolve, invoke, builtin, hr]

theorem aappend_ok (hτ : TysOk P τ) {o : Oper} {T : Nat} {x y : Operand} {K : AState → Prop} (hop : o.op = .call { callee := .builtin .append, args := #[x, y], argTypes := #[T, T] })
    (h : aappend τ S o.dst T (ev S x) (ev S y) K)
    (hR : Rel w0 G Im0 S ρ Im a w) {next : Act → World → Prop} {Q : Exit → Act → World → Prop}
    (hn : ∀ S' a' w', K S' → RelE w0 G Im0 S' a' w' → next a' w') : o.wp P a w next Q := by
  unfold aappend at h
  have hxv := ev_rel hR x
  have hyv := ev_rel hR y
  cases hdst : o.dst with
  | none => simp [hdst] at h
  | some t =>
    cases hT : τ T with
    | none => simp [hdst, hT] at h
    | some i =>
      simp only [hdst, hT] at h
      obtain ⟨d, hdd, _, hdesc⟩ := (hτ T i hT).und
      cases hd : i.desc <;> simp only [hd] at h hdesc <;> try exact h.elim
      rename_i E κ
      subst hdesc
      cases hTE : τ E with
      | none => simp [hTE] at h
      | some ie =>
        simp only [hTE] at h
        cases hs : Nat.beq ie.size κ.sz with
        | false => simp [hs] at h
        | true =>
          simp only [hs] at h
          have hsz : ie.size = κ.sz := Nat.eq_of_beq_eq_true hs
          cases hm : listOf S.blk κ (ev S y) with
          | none => simp [hm] at h
          | some m =>
            simp only [hm] at h
            obtain ⟨ad, c, hye, hnews⟩ := listOf_ok hm hR hyv
            obtain ⟨xi, z, hxi, hxs, hxb, hxz, hzc⟩ := (hτ E ie hTE).info
            have hzsz : z.cells.size = κ.sz := by rw [hzc, List.size_toArray, (hτ E ie hTE).zsz.1, hsz]
            have hpos : 0 < κ.sz := κ.sz_pos
            have fin : ∀ {v : Value} {w' : World} {S' : AState}, (Builtin.append_ #[T, T] o.type #[a.eval x, a.eval y]).run P w = .ok v w' → K S' → RelE w0 G Im0 S' (a.put (some t) v) w' → o.wp P a w next Q := by
              intro v w' S' hr hK hrel
              unfold Oper.wp
              rw [run_append_op hop hr]
              simp only [Oper.upon, hdst]
              exact hn _ _ _ hK hrel
            -- a nil slice grows
            have nil_case : ∀ {S1 : AState} {n tm blk} {l : List κ.T} {sh : Bool}, a.eval x = .slice none 0 0 → l.length = 0 → S1 = ⟨n, tm, blk⟩ → (t < n ∧ t < 900000) → Rel w0 G Im0 ⟨n, tm, blk⟩ ρ Im a w →
                m.length * ie.bytes ≤ 140737488355328 → m.length ≤ maxLen → K ⟨n, updT (killT tm t) t (.row t), updB (killB blk t) t (some (.row E κ (l ++ m) sh))⟩ → o.wp P a w next Q := by
              intro S1 n tm blk l sh hxe hl0 _ ht hR1 hb1 hb2 hK
              have hl : l = [] := List.eq_nil_of_length_eq_zero hl0
              subst hl
              simp only [List.nil_append] at hK
              by_cases h0 : m.length = 0
              · refine fin ?_ hK (hR1.nilRow ht h0)
                rw [hxe, hye, h0]
                exact run_append_none hdd (hτ E ie hTE) o.type none (by simp) 0 0 (Nat.le_refl _) ad c
              · obtain ⟨b, o', news, rfl, hnl, hnc, hn1, hnr⟩ := hnews h0
                have hb63 : (m.length : Int) ≤ 9223372036854775807 := by unfold maxLen at hb2; omega
                have hrun := run_append_nil (P := P) w T o.type E xi z hdd hxi hxz ⟨b, o', none⟩ m.length c news (by rw [hnl, hxs, hsz]) hnc (by omega) hb63 (by rw [hxb]; omega)
                refine fin (by rw [hxe, hye]; exact hrun) hK (hR1.grown (w' := w.drew.alloc (.cells (news.toArray ++ Builtin.zeroCells z.cells (grownCap w m.length 0 E - m.length)) E)) (cs := news.toArray ++ Builtin.zeroCells z.cells (grownCap w m.length 0 E - m.length)) ht rfl rfl rfl rfl (grownCap_ge w _ 0 E) (grownCap_le_maxLen w _ 0 E hb2) ?_ ?_)
                · have := grownCap_ge w m.length 0 E
                  simp only [Array.size_append, List.size_toArray, size_zeroCells, hzsz, hnl, ← Nat.add_mul]
                  congr 1; omega
                · have := Reads.append (l := []) (os := []) (m := m) (h := w.heap) (Im := Im) (κ := κ) (by simp) (fun k j hk => by simp at hk) hnr (Builtin.zeroCells z.cells (grownCap w m.length 0 E - m.length)).toList
                  simpa using this
            split at h
            · -- nil
              rename_i hxe
              rw [hxe] at hxv
              obtain ⟨hb1, hb2, hnew⟩ := h
              obtain ⟨n, tm, blk, rfl, ht, hK⟩ := new_ok hnew
              exact nil_case (l := []) (sh := false) (nils_val hxv) rfl rfl ht hR hb1 hb2 (by simpa using hK)
            · -- a row
              rename_i id hxe
              rw [hxe] at hxv
              cases hB : S.blk id with
              | none => simp [hB] at h
              | some bb =>
                cases bb with
                | box => simp [hB] at h
                | tree => simp [hB] at h
                | row E' κ' l sh =>
                  simp only [hB] at h
                  cases hEE : Nat.beq E' E with
                  | false => simp [hEE] at h
                  | true =>
                    simp only [hEE] at h
                    have hE' : E' = E := Nat.eq_of_beq_eq_true hEE
                    subst hE'
                    by_cases hκ : κ' = κ
                    · subst hκ
                      simp only [dite_true] at h
                      obtain ⟨⟨hb1, hb2⟩, hnew⟩ := h
                      obtain ⟨n, tm, blk⟩ := S
                      simp only [AState.kill] at hnew
                      obtain ⟨n', tm', blk', hSe, ht, hK⟩ := new_ok hnew
                      cases hSe
                      have hbl := hR.env.bl id _ hB
                      have hRk := hR.kill (i := id) (ρ' := ρ) (fun _ _ => rfl)
                      have hu := hxv
                      generalize hue : a.eval x = u at hu
                      cases hu with
                      | rowN _ hi =>
                        simp only [BlkR, hi] at hbl
                        refine nil_case (l := l) (sh := sh) hue hbl rfl ht hRk ?_ (by omega) hK
                        have : m.length * ie.bytes ≤ (l.length + m.length) * ie.bytes := Nat.mul_le_mul_right _ (by omega)
                        omega
                      | row _ r hi =>
                        simp only [BlkR, hi] at hbl
                        obtain ⟨hl1, hl2, hl3, cur, T0, hh, hcsz, hcc⟩ := hbl
                        have hlt : r.b < w.heap.size := (Array.getElem?_eq_some_iff.1 hh).1
                        have hownr := hR.ext.own id r r.b (by change blk id ≠ none; change blk id = _ at hB; simp [hB]) hi (.inl rfl)
                        have hfree : ∀ j s x, killB blk id j ≠ none → ρ j = some s → s.has x → x ≠ r.b := fun j s x hj hs hx e => by
                          have hne : j ≠ id := fun e => by subst e; exact hj (killB_same _ _)
                          refine hne (hR.env.inj j id s r x (fun e' => hj ?_) (by change blk id ≠ none; change blk id = _ at hB; simp [hB]) hs hi hx (.inl e))
                          change blk j = none at e'
                          rw [killB_ne hne, e']; rfl
                        have hpin : ∀ o, Im r.b o ↔ (sh = true ∧ o < l.length * κ'.sz) := fun o => by
                          rw [hR.env.imOwn id _ r o hB hi]
                          cases sh <;> simp [Blk.pinned]
                        have hreadl : Reads w.heap Im κ' l (cur.toList.take (l.length * κ'.sz)) := fun k j hk hj => by
                          obtain ⟨c, hc1, hc2⟩ := hcc k j hk hj
                          exact ⟨c, by rw [List.getElem?_take_of_lt (idx_lt hk hj)]; simpa using hc1, hc2⟩
                        have htl : (cur.toList.take (l.length * κ'.sz)).length = l.length * κ'.sz := by
                          have : l.length * κ'.sz ≤ r.cap * κ'.sz := Nat.mul_le_mul_right _ (by omega)
                          simp; omega
                        by_cases h0 : m.length = 0
                        · have hm0 : m = [] := List.eq_nil_of_length_eq_zero h0
                          subst hm0
                          simp only [List.append_nil] at hK
                          have hrun : (Builtin.append_ #[T, T] o.type #[a.eval x, a.eval y]).run P w = .ok (.slice (some ⟨r.b, 0, none⟩) l.length r.cap) w := by
                            rw [hue, hye, hl1]
                            exact run_append_none hdd (hτ E' ie hTE) o.type _ (by simp) _ _ (by omega) ad c
                          refine fin hrun hK (hRk.moved (w' := w) (q := l.length * κ'.sz) ht hlt hownr hfree (fun _ _ => rfl) (fun _ _ => rfl) (Nat.le_refl _) rfl rfl rfl hpin (Nat.le_refl _) (by omega) hl3 hh hcsz (fun k j hk hj => ?_))
                          obtain ⟨c, hc1, hc2⟩ := hcc k j hk hj
                          exact ⟨c, by simpa using hc1, hc2⟩
                        · obtain ⟨b, o', news, rfl, hnl, hnc, hn1, hnr⟩ := hnews h0
                          by_cases hroom : l.length + m.length ≤ r.cap
                          · have hfit : l.length * xi.size + news.length ≤ cur.size := by
                              rw [hnl, hxs, hsz, hcsz, ← Nat.add_mul]; exact Nat.mul_le_mul_right _ hroom
                            have hrun := run_append_room' (P := P) w T o.type E' T0 xi hdd hxi r.b l.length r.cap cur hh ⟨b, o', none⟩ m.length c news (by rw [hnl, hxs, hsz]) hnc hn1 hroom hfit
                            rw [hxs, hsz] at hrun hfit
                            have hos := setRow_os w r.b (over cur (l.length * κ'.sz) news)
                            have hlen : (l ++ m).length = l.length + m.length := List.length_append
                            have key := hRk.moved (w' := w.setRow r.b (over cur (l.length * κ'.sz) news)) (E := E') (l := l ++ m) (sh := sh) (cap := r.cap) (q := l.length * κ'.sz) ht hlt hownr hfree (fun k hk => setRow_other w r.b k _ hk)
                              (fun o hI => by
                                have := ((hpin o).1 hI).2
                                have e1 : (over cur (l.length * κ'.sz) news)[o]? = cur[o]? := by rw [over_get _ _ _ hfit, if_neg (by omega)]
                                simp only [hcell, setRow_heap w r.b cur _ T0 _ hh, hh, e1]) (by rw [hos.2.2.2]; exact Nat.le_refl _) hos.1 hos.2.1 hos.2.2.1 hpin
                              (by rw [hlen, Nat.add_mul]; omega) (by rw [hlen]; exact hroom) hl3 (setRow_heap w r.b cur _ T0 _ hh) (by rw [over_size _ _ _ hfit]; exact hcsz)
                              (by
                                have := Reads.append (rest := cur.toList.drop (l.length * κ'.sz + news.length)) htl hreadl hnr
                                simpa [over] using this)
                            rw [hlen] at key
                            exact fin (by rw [hue, hye, hl1]; exact hrun) hK key
                          · have holds : ∀ j v, (cur.toList.take (l.length * κ'.sz))[j]? = some v → w.cell? ((⟨r.b, 0, none⟩ : Addr).add j) = some v := fun j v hv => by
                              have hj := (List.getElem?_eq_some_iff.1 hv).1
                              rw [htl] at hj
                              rw [List.getElem?_take_of_lt hj] at hv
                              rw [Addr.add_some, cell?_eq, Nat.zero_add]
                              simp only [hcell, hh]; simpa using hv
                            have hneed : l.length + m.length ≤ maxLen := hb2
                            have hrun := run_append_grow (P := P) w T o.type E' xi z hdd hxi hxz ⟨r.b, 0, none⟩ l.length r.cap (cur.toList.take (l.length * κ'.sz)) (by rw [htl, hxs, hsz]) holds ⟨b, o', none⟩ m.length c news (by rw [hnl, hxs, hsz]) hnc
                              (by omega) (by unfold maxLen at hneed; omega) (growslice_fits (by omega) (by rw [hxb]; exact hb1))
                            have hlen : (l ++ m).length = l.length + m.length := List.length_append
                            have key := hRk.grown (t := t) (E := E') (κ := κ') (l := l ++ m) (sh := sh) (cap := grownCap w (l.length + m.length) r.cap E') (w' := w.drew.alloc (.cells ((cur.toList.take (l.length * κ'.sz)).toArray ++ news.toArray ++ Builtin.zeroCells z.cells (grownCap w (l.length + m.length) r.cap E' - (l.length + m.length))) E')) ht rfl rfl rfl rfl
                              (by rw [hlen]; exact grownCap_ge w _ _ _) (grownCap_le_maxLen w _ _ _ hneed) (by
                                have := grownCap_ge w (l.length + m.length) r.cap E'
                                simp only [Array.size_append, List.size_toArray, size_zeroCells, hzsz, hnl, htl, ← Nat.add_mul]
                                congr 1; omega)
                              (by
                                have := Reads.append (rest := (Builtin.zeroCells z.cells (grownCap w (l.length + m.length) r.cap E' - (l.length + m.length))).toList) htl hreadl hnr
                                simpa using this)
                            rw [hlen] at key
                            exact fin (by rw [hue, hye, hl1]; exact hrun) hK key
                    · simp [hκ] at h
            · exact h.elim
end
end Vg
