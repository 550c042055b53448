/- Stores and appends. -/
import Derived.Test.YtlopkgjiccppfaaDoorTree
namespace Vg
open Go

section
variable {P : Program} {τ : Tys} {Im Im' : Nat → Nat → Prop} {ρ ρ' : Rho} {h h' : Array Obj} {w w' : World}
variable {w0 : World} {G : GP} {Im0 : Nat → Nat → Prop} {S : AState} {a : Act} {n : Nat} {tm : Nat → AV} {blk : Nat → Option Blk}

/-- cells laid over a row -/
def over (cur : Array Value) (o : Nat) (vs : List Value) : Array Value := (cur.toList.take o ++ vs ++ cur.toList.drop (o + vs.length)).toArray
theorem over_size (cur : Array Value) (o : Nat) (vs : List Value) (ho : o + vs.length ≤ cur.size) : (over cur o vs).size = cur.size := by
  simp [over]; omega
theorem over_get (cur : Array Value) (o : Nat) (vs : List Value) (ho : o + vs.length ≤ cur.size) (k : Nat) :
    (over cur o vs)[k]? = if o ≤ k ∧ k < o + vs.length then vs[k - o]? else cur[k]? := by
  simp only [over, List.getElem?_toArray]
  have hl : (cur.toList.take o).length = o := by simp; omega
  by_cases h1 : k < o
  · rw [if_neg (by omega), List.append_assoc, List.getElem?_append_left (by omega), List.getElem?_take_of_lt h1]; simp
  · by_cases h2 : k < o + vs.length
    · rw [if_pos (by omega), List.getElem?_append_left (by simp only [List.length_append, hl]; omega), List.getElem?_append_right (by omega), hl]
    · rw [if_neg (by omega), List.getElem?_append_right (by simp only [List.length_append, hl]; omega), List.length_append, hl, List.getElem?_drop,
        show o + vs.length + (k - (o + vs.length)) = k from by omega]
      simp

theorem setRow_os (w : World) (g : Nat) (cs : Array Value) : (w.setRow g cs).os = w.os ∧ (w.setRow g cs).tape = w.tape ∧ (w.setRow g cs).output = w.output ∧ (w.setRow g cs).heap.size = w.heap.size := by
  refine ⟨rfl, rfl, rfl, ?_⟩
  simp [World.setRow]

theorem run_storeAt {T b o : Nat} {i : TyI} (ht : TyOk P T i) {v : Value} {cur : Array Value} {T' : Nat} (hv : v.cells.size = i.size) (hh : w.heap[b]? = some (.cells cur T' (0, 0)))
    (ho : o + i.size ≤ cur.size) (h1 : ∀ u ∈ v.cells.toList, u.oneCell' = true) :
    (Instr.storeAt T (.pointer (some ⟨b, o, none⟩)) v).run P w = .ok () (w.setRow b (over cur o v.cells.toList)) := by
  have hl : v.cells.toList.length = i.size := by simpa using hv
  have := run_storeCells_at P b o T' v.cells.toList 0 cur w hh (by omega) h1
  simp only [Nat.add_zero] at this
  simp only [Instr.storeAt, Instr.sureAddr, pure_bind, storeVar, Sem.run_bind, run_sizeOf ht, Result.andThen_ok, hv]
  simp only [ne_eq, not_true, if_false]
  exact this

theorem cells_one_all {vs : List AV} {v : Value} (hall : vs.all AV.oneC = true) (hc : CellsR ρ h Im vs v.cells) : ∀ u ∈ v.cells.toList, u.oneCell' = true := by
  intro u hu
  obtain ⟨j, hj⟩ := List.getElem?_of_mem hu
  rw [Array.getElem?_toList] at hj
  have hjl : j < vs.length := by have := (Array.getElem?_eq_some_iff.1 hj).1; rw [hc.1] at this; exact this
  obtain ⟨c, h1, h2⟩ := hc.2 j _ (List.getElem?_eq_getElem hjl)
  rw [hj] at h1; cases h1
  exact h2.one (List.all_eq_true.1 hall _ (List.getElem_mem hjl))

theorem splice_getD (L ds : List Dat) (j n j' : Nat) (d0 : Dat) (hds : ds.length = n) (hle : j + n ≤ L.length) :
    (L.take j ++ ds ++ L.drop (j + n)).getD j' d0 = if j ≤ j' ∧ j' < j + n then ds.getD (j' - j) d0 else L.getD j' d0 := by
  have hjl : (L.take j).length = j := by simp; omega
  simp only [List.getD_eq_getElem?_getD]
  by_cases h1 : j' < j
  · rw [if_neg (by omega), List.append_assoc, List.getElem?_append_left (by omega), List.getElem?_take_of_lt h1]
  · by_cases h2 : j' < j + n
    · rw [if_pos (by omega), List.append_assoc, List.getElem?_append_right (by omega), hjl, List.getElem?_append_left (by omega)]
    · rw [if_neg (by omega), List.getElem?_append_right (by simp only [List.length_append, hjl]; omega), List.length_append, hjl, hds, List.getElem?_drop,
        show j + n + (j' - (j + n)) = j' from by omega]

/-- what a place in a row's memory is behind a write of some cells of element k -/
theorem over_cell {cur : Array Value} {k j k' j' sz cap : Nat} {vs : List Value} (hsz : cur.size = cap * sz) (hk : k < cap) (hj : j + vs.length ≤ sz) (hj' : j' < sz) :
    (over cur (k * sz + j) vs)[k' * sz + j']? = if k' = k ∧ j ≤ j' ∧ j' < j + vs.length then vs[j' - j]? else cur[k' * sz + j']? := by
  have hkk : (k + 1) * sz ≤ cap * sz := Nat.mul_le_mul_right _ (by omega)
  rw [Nat.add_mul] at hkk
  rw [over_get _ _ _ (by omega)]
  by_cases e : k' = k
  · subst e
    by_cases h1 : j ≤ j' ∧ j' < j + vs.length
    · rw [if_pos (by omega), if_pos ⟨rfl, h1⟩, show k' * sz + j' - (k' * sz + j) = j' - j from by omega]
    · rw [if_neg (by omega), if_neg (fun h => h1 h.2)]
  · have hn : ¬ (k * sz + j ≤ k' * sz + j' ∧ k' * sz + j' < k * sz + j + vs.length) := by
      rcases Nat.lt_or_gt_of_ne e with hlt | hgt
      · have : (k' + 1) * sz ≤ k * sz := Nat.mul_le_mul_right _ hlt
        rw [Nat.add_mul] at this; omega
      · have : (k + 1) * sz ≤ k' * sz := Nat.mul_le_mul_right _ hgt
        rw [Nat.add_mul] at this; omega
    rw [if_neg hn, if_neg (fun h => e h.1)]

theorem astoreT_rel {i : TyI} {id k j sz : Nat} {vs : List AV} {cells : Array Value} {u : Value} {K : AState → Prop} (h : astoreT i S id k j sz vs K) (hR : Rel w0 G Im0 S ρ Im a w)
    (hcr : CellsR ρ w.heap Im vs cells) (hsz : cells.size = i.size) (hpv : AVR ρ w.heap Im (.rptr id k j sz) u) :
    ∃ b off cur T' S1, u = .pointer (some ⟨b, off, none⟩) ∧ w.heap[b]? = some (.cells cur T' (0, 0)) ∧ off + i.size ≤ cur.size ∧ K S1 ∧ RelE w0 G Im0 S1 a (w.setRow b (over cur off cells.toList)) := by
  unfold astoreT at h
  have hll : cells.toList.length = i.size := by simpa using hsz
  cases hpv with
  | rptr _ _ _ _ r hr =>
  split at h
  · -- a number in a cell
    rename_i q m
    obtain ⟨n, tm, blk⟩ := S
    simp only at h
    cases hB : blk id with
    | none => simp [hB] at h
    | some bb =>
      cases bb with
      | box => simp [hB] at h
      | row => simp [hB] at h
      | tree E κ l =>
        simp only [hB] at h
        split at h
        case h_2 => exact h.elim
        rename_i hs hi1
        have hsz' := Nat.eq_of_beq_eq_true hs
        subst hsz'
        cases hd : κ.put1 (l.getD k κ.dflt) j (.int q m) with
        | none => simp only [hd] at h
        | some y =>
          simp only [hd] at h
          obtain ⟨hk, h⟩ := h
          have henc := Vg.K.put1_enc hd
          have hjlt : j + 1 ≤ κ.sz := by
            have h1 := congrArg List.length henc
            simp only [Vg.K.enc_length, List.length_append, List.length_take, List.length_drop, List.length_cons, List.length_nil] at h1
            omega
          obtain ⟨c, hc1, hc2⟩ := hcr.2 0 _ rfl
          have hc3 : c = .int q m := dat_int hc2
          subst hc3
          have hbl := hR.env.bl id _ hB
          simp only [BlkR, hr] at hbl
          obtain ⟨hb1, hb2, hb3, cur, Fk, T0, hh, hcsz, hF, hD, hcc⟩ := hbl
          have hkk : (k + 1) * κ.sz ≤ r.cap * κ.sz := Nat.mul_le_mul_right _ (by omega)
          rw [Nat.add_mul] at hkk
          have hos := setRow_os w r.b (over cur (k * κ.sz + j) cells.toList)
          have hImb : ∀ o, ¬ Im r.b o := fun o h1 => by
            have := (hR.env.imOwn id _ r o hB hr).1 h1
            simp [Blk.pinned] at this
          refine ⟨r.b, k * κ.sz + j, cur, T0, _, rfl, hh, by rw [hcsz]; omega, h _ rfl, ρ, Im, ?_⟩
          have hheap : (w.setRow r.b (over cur (k * κ.sz + j) cells.toList)).heap[r.b]? = some (.cells (over cur (k * κ.sz + j) cells.toList) T0 (0, 0)) := setRow_heap w r.b cur _ T0 _ hh
          refine hR.write (b' := .tree E κ (l.set k y)) hB hr (fun k' hk' => setRow_other w r.b k' _ hk') (fun o' hI => absurd hI (hImb o')) (by rw [hos.2.2.2]; exact Nat.le_refl _) hos.1 hos.2.1 hos.2.2.1
            (fun _ _ x => x) (fun _ _ x => .inl x) ?_ (fun o' => ⟨fun hI => absurd hI (hImb o'), fun h => by simp [Blk.pinned] at h⟩)
          simp only [BlkR, hr]
          refine ⟨by simpa using hb1, hb2, hb3, _, Fk, _, hheap, by rw [over_size _ _ _ (by rw [hll, hcsz]; omega)]; exact hcsz, fun k' j' x hk' hj' hx => hF k' j' x (by simpa using hk') hj' hx,
            fun k1 j1 k2 j2 x h1 h2 h3 h4 => hD k1 j1 k2 j2 x (by simpa using h1) h2 (by simpa using h3) h4, fun k' j' hk' hj' => ?_⟩
          simp only [List.length_set] at hk'
          obtain ⟨c0, hq1, hq2⟩ := hcc k' j' hk' hj'
          have keep : ∀ {d : Dat} {v : Value}, RepT w.heap d v (Fk k' j') → RepT (w.setRow r.b (over cur (k * κ.sz + j) cells.toList)).heap d v (Fk k' j') := fun hr' => hr'.mono fun x hx => setRow_other w r.b x _ (hF k' j' x hk' hj' hx).2
          rw [over_cell hcsz (by omega) (by rw [hll]; omega) hj', hll, hi1]
          by_cases e : k' = k
          · subst e
            have hg : (l.set k' y).getD k' κ.dflt = y := by simp [List.getD_eq_getElem?_getD, hk]
            simp only [cellOf, hg, henc]
            rw [splice_getD _ [Dat.int q m] j 1 j' _ rfl (by rw [κ.enc_length]; exact hjlt)]
            by_cases hin : j ≤ j' ∧ j' < j + 1
            · rw [if_pos ⟨trivial, hin⟩, if_pos hin]
              have : j' - j = 0 := by omega
              rw [this]
              refine ⟨.int q m, by simpa using hc1, .int q m _⟩
            · rw [if_neg (fun h => hin h.2), if_neg hin]
              exact ⟨c0, hq1, keep hq2⟩
          · rw [if_neg (fun h => e h.1)]
            have hg : (l.set k y).getD k' κ.dflt = l.getD k' κ.dflt := by simp [List.getD_eq_getElem?_getD, List.getElem?_set_ne (fun e' => e e'.symm)]
            simp only [cellOf, hg]
            exact ⟨c0, hq1, keep hq2⟩
  · -- an element whole
    cases hlt : Nat.blt id 900000 with
    | false => simp [hlt] at h
    | true =>
      simp only [hlt] at h
      obtain ⟨S', ds, Fs, h9, hR', hdl, hdl', hds, hFr, hDs, _, _⟩ := takeDs_ok i.zeroD vs S (fun j => cells.getD j undef) _ h hR (fun j y hy => by
        obtain ⟨c, hc1, hc2⟩ := hcr.2 j y hy
        simpa [hc1] using hc2)
      obtain ⟨n, tm, blk⟩ := S'
      simp only at h9
      cases hB : blk id with
      | none => simp [hB] at h9
      | some bb =>
        cases bb with
        | box => simp [hB] at h9
        | row => simp [hB] at h9
        | tree E κ l =>
          simp only [hB] at h9
          split at h9
          case h_2 => exact h9.elim
          rename_i hs hj0 his
          have hsz' := Nat.eq_of_beq_eq_true hs
          have hj0' := Nat.eq_of_beq_eq_true hj0
          have his' := Nat.eq_of_beq_eq_true his
          subst hsz' hj0'
          obtain ⟨hk, h9⟩ := h9
          cases hd : κ.dec ds with
          | none => simp only [hd] at h9
          | some y =>
            simp only [hd] at h9
            have henc := Vg.K.dec_enc hd
            have hbl := hR'.env.bl id _ hB
            simp only [BlkR, hr] at hbl
            obtain ⟨hb1, hb2, hb3, cur, Fk, T0, hh, hcsz, hF, hD, hcc⟩ := hbl
            have hkk : (k + 1) * κ.sz ≤ r.cap * κ.sz := Nat.mul_le_mul_right _ (by omega)
            rw [Nat.add_mul] at hkk
            have hos := setRow_os w r.b (over cur (k * κ.sz + 0) cells.toList)
            have hbN : blk id ≠ none := by rw [hB]; exact fun h => by cases h
            refine ⟨r.b, k * κ.sz + 0, cur, T0, _, rfl, hh, by rw [hcsz, his']; omega, h9 _ rfl, updR ρ id (some { r with fp := fun x => r.fp x ∨ ∃ j, Fs j x }), Im, ?_⟩
            have hheap : (w.setRow r.b (over cur (k * κ.sz + 0) cells.toList)).heap[r.b]? = some (.cells (over cur (k * κ.sz + 0) cells.toList) T0 (0, 0)) := setRow_heap w r.b cur _ T0 _ hh
            refine hR'.writeT (b' := .tree E κ (l.set k y)) hB hr (blt_lt hlt) (fun k' hk' => setRow_other w r.b k' _ hk') hos.2.2.2 hos.1 hos.2.1 hos.2.2.1 rfl rfl
              (fun x hx => hx.imp (fun h => h) fun ⟨j, hj⟩ => hFr j x hj) ?_
            simp only [BlkR, updR_same]
            refine ⟨by simpa using hb1, hb2, hb3, _, fun k' j' => if k' = k then Fs j' else Fk k' j', _, hheap, by rw [over_size _ _ _ (by rw [hll, hcsz, his']; omega)]; exact hcsz, fun k' j' x hk' hj' hx => ?_,
              fun k1 j1 k2 j2 x h1 h2 h3 h4 hx hy => ?_, fun k' j' hk' hj' => ?_⟩
            · replace hx : (if k' = k then Fs j' else Fk k' j') x := hx
              by_cases e : k' = k
              · rw [if_pos e] at hx
                exact ⟨.inr ⟨j', hx⟩, fun e' => (hFr j' x hx).far id r hbN hr (.inl e')⟩
              · rw [if_neg e] at hx
                have := hF k' j' x (by simpa using hk') hj' hx
                exact ⟨.inl this.1, this.2⟩
            · replace hx : (if k1 = k then Fs j1 else Fk k1 j1) x := hx
              replace hy : (if k2 = k then Fs j2 else Fk k2 j2) x := hy
              by_cases e1 : k1 = k
              · by_cases e2 : k2 = k
                · rw [if_pos e1] at hx; rw [if_pos e2] at hy
                  exact ⟨e1.trans e2.symm, hDs j1 j2 x hx hy⟩
                · rw [if_pos e1] at hx; rw [if_neg e2] at hy
                  exact absurd (.inr (hF k2 j2 x (by simpa using h3) h4 hy).1) ((hFr j1 x hx).far id r hbN hr)
              · by_cases e2 : k2 = k
                · rw [if_neg e1] at hx; rw [if_pos e2] at hy
                  exact absurd (.inr (hF k1 j1 x (by simpa using h1) h2 hx).1) ((hFr j2 x hy).far id r hbN hr)
                · rw [if_neg e1] at hx; rw [if_neg e2] at hy
                  exact hD k1 j1 k2 j2 x (by simpa using h1) h2 (by simpa using h3) h4 hx hy
            · simp only [List.length_set] at hk'
              change ∃ c, _ ∧ RepT _ _ c (if k' = k then Fs j' else Fk k' j')
              rw [over_cell hcsz (by omega) (by rw [hll, his']; omega) hj', hll, his']
              by_cases e : k' = k
              · subst e
                have hg : (l.set k' y).getD k' κ.dflt = y := by simp [List.getD_eq_getElem?_getD, hk]
                rw [if_pos ⟨rfl, by omega, by omega⟩, if_pos rfl]
                simp only [cellOf, hg, henc]
                have hjl : j' < ds.length := by
                  have := κ.enc_length y
                  rw [henc] at this; omega
                have h5 := hds j' _ (List.getElem?_eq_getElem hjl)
                have hlt2 : j' < cells.size := by rw [hsz, his']; exact hj'
                refine ⟨cells[j'], by simp [hlt2], ?_⟩
                simp only [Array.getD_eq_getD_getElem?, Array.getElem?_eq_getElem hlt2, Option.getD_some] at h5
                rw [List.getD_eq_getElem?_getD, List.getElem?_eq_getElem hjl]
                exact h5.mono fun x hx => setRow_other w r.b x _ fun e' => (hFr j' x hx).far id r hbN hr (.inl e')
              · rw [if_neg (fun h => e h.1), if_neg e]
                have hg : (l.set k y).getD k' κ.dflt = l.getD k' κ.dflt := by simp [List.getD_eq_getElem?_getD, List.getElem?_set_ne (fun e' => e e'.symm)]
                simp only [cellOf, hg]
                obtain ⟨c0, hq1, hq2⟩ := hcc k' j' hk' hj'
                exact ⟨c0, hq1, hq2.mono fun x hx => setRow_other w r.b x _ (hF k' j' x hk' hj' hx).2⟩

theorem astore_ok (hτ : TysOk P τ) {o : Oper} {T : Nat} {pa x : Operand} {K : AState → Prop} (hop : o.op = .store T pa x) (hst : astore τ S T (ev S pa) (ev S x) fun S => S.put o.dst .any K)
    (hR : Rel w0 G Im0 S ρ Im a w) {next : Act → World → Prop} {Q : Exit → Act → World → Prop}
    (hn : ∀ S' a' w', K S' → RelE w0 G Im0 S' a' w' → next a' w') : o.wp P a w next Q := by
  unfold astore at hst
  have hpv := ev_rel hR pa
  have hxv := ev_rel hR x
  generalize hp' : ev S pa = p at hst hpv
  generalize hx' : ev S x = v at hst hxv
  cases hT : τ T with
  | none => simp [hT] at hst
  | some i =>
    cases hc : v.cells1 with
    | none => simp [hT, hc] at hst
    | some vs =>
      simp only [hT, hc] at hst
      cases hl : Nat.beq vs.length i.size with
      | false => simp [hl] at hst
      | true =>
        cases hall : vs.all AV.oneC with
        | false => simp [hl, hall] at hst
        | true =>
          simp only [hl, hall] at hst
          have hlen : vs.length = i.size := Nat.eq_of_beq_eq_true hl
          have hcr : CellsR ρ w.heap Im vs (a.eval x).cells := hxv.cells1 hc
          have hsz : (a.eval x).cells.size = i.size := by rw [hcr.1, hlen]
          have hones := cells_one_all hall hcr
          have hll : (a.eval x).cells.toList.length = i.size := by simpa using hsz
          -- the write at the concrete level, and what to do behind it
          have fin : ∀ {b off : Nat} {cur : Array Value} {T' : Nat}, a.eval pa = .pointer (some ⟨b, off, none⟩) → w.heap[b]? = some (.cells cur T' (0, 0)) → off + i.size ≤ cur.size →
              ∀ {S1 : AState}, (S1.put o.dst .any K) → RelE w0 G Im0 S1 a (w.setRow b (over cur off (a.eval x).cells.toList)) → o.wp P a w next Q := by
            intro b off cur T' h1 h2 h3 S1 hput hrel
            have hrun := run_storeAt (hτ T i hT) hsz h2 h3 hones
            unfold Oper.wp
            have : (execOp a.eval o).run P w = .ok .skip (w.setRow b (over cur off (a.eval x).cells.toList)) := by
              simp only [execOp, hop, h1, Sem.run_bind, hrun, Result.andThen_ok, Sem.run_pure]
            rw [this]
            simp only [Oper.upon]
            obtain ⟨S2, hK, hS2⟩ := put_ok (w0 := w0) (G := G) (Im0 := Im0) hput
            obtain ⟨ρ', Im', hr'⟩ := hrel
            exact hn S2 _ _ hK ⟨ρ', Im', hS2 hr' (.any _)⟩
          split at hst
          · -- a box
            rename_i id off
            obtain ⟨n, tm, blk⟩ := S
            simp only at hst
            cases hB : blk id with
            | none => simp [hB] at hst
            | some bb =>
              cases bb with
              | row => simp [hB] at hst
              | tree => simp [hB] at hst
              | box cells =>
                simp only [hB] at hst
                cases hb : Nat.ble (off + i.size) cells.length with
                | false => simp [hb] at hst
                | true =>
                  simp only [hb, forceL_eq] at hst
                  have hle := Nat.le_of_ble_eq_true hb
                  have hbl := hR.env.bl id _ hB
                  obtain ⟨r, cur, T', hr, hh, hcsz, hcc⟩ := hbl
                  have hpe : a.eval pa = .pointer (some ⟨r.b, off, none⟩) := by
                    generalize a.eval pa = u at hpv
                    cases hpv with
                    | ptr _ _ r' hi => rw [hr] at hi; cases hi; rfl
                  have hos := setRow_os w r.b (over cur off (a.eval x).cells.toList)
                  have hho : off + (a.eval x).cells.toList.length ≤ cur.size := by rw [hll, hcsz]; exact hle
                  refine fin hpe hh (by rw [hcsz]; exact hle) hst ⟨ρ, Im, ?_⟩
                  have hheap : (w.setRow r.b (over cur off (a.eval x).cells.toList)).heap[r.b]? = some (.cells (over cur off (a.eval x).cells.toList) T' (0, 0)) := setRow_heap w r.b cur _ T' _ hh
                  have hIm : ∀ o', ¬ Im r.b o' := fun o' hI => by
                    have := (hR.env.imOwn id _ r o' hB hr).1 hI
                    simp [Blk.pinned] at this
                  have hce : ∀ b o', Im b o' → hcell (w.setRow r.b (over cur off (a.eval x).cells.toList)).heap b o' = hcell w.heap b o' := fun b o' hI => by
                    refine hcell_of_block (setRow_other w r.b b _ (fun e => ?_)) o'
                    subst e; exact hIm o' hI
                  refine hR.write (b' := .box (setCells cells off vs)) hB hr (fun k hk => setRow_other w r.b k _ hk) (fun o' hI => absurd hI (hIm o')) (by rw [hos.2.2.2]; exact Nat.le_refl _) hos.1 hos.2.1 hos.2.2.1
                    (fun _ _ x => x) (fun _ _ x => .inl x) ?_ (fun o' => ⟨fun hI => absurd hI (hIm o'), fun h => by simp [Blk.pinned] at h⟩)
                  refine ⟨r, _, T', hr, hheap, by rw [over_size _ _ _ hho, setCells_length]; exact hcsz, fun j y hy => ?_⟩
                  rw [setCells_get _ _ _ _ (by rw [hlen]; exact hle)] at hy
                  rw [over_get _ _ _ hho, hll]
                  rw [hlen] at hy
                  split at hy
                  · rename_i hin
                    rw [if_pos hin]
                    obtain ⟨c, hc1, hc2⟩ := hcr.2 _ y hy
                    exact ⟨c, by simpa using hc1, hc2.mono hce (fun _ _ x => x)⟩
                  · rename_i hin
                    rw [if_neg hin]
                    obtain ⟨c, hc1, hc2⟩ := hcc j y hy
                    exact ⟨c, hc1, hc2.mono hce (fun _ _ x => x)⟩
          · -- an element of a row
            rename_i id k j sz
            cases htr : isTree S.blk id with
            | true =>
              simp only [htr] at hst
              obtain ⟨b, off, cur, T', S1, e1, e2, e3, e4, e5⟩ := astoreT_rel hst hR hcr hsz hpv
              exact fin e1 e2 e3 e4 e5
            | false =>
            simp only [htr] at hst
            obtain ⟨S', ds, Im', h1, hR', hI, hdl, hdl', hds⟩ := datFs_ok i.zeroD vs S Im (fun j => (a.eval x).cells.getD j undef) _ hst hR (fun j y hy => by
              obtain ⟨c, hc1, hc2⟩ := hcr.2 j y hy
              simpa [hc1] using hc2)
            obtain ⟨n, tm, blk⟩ := S'
            simp only at h1
            cases hB : blk id with
            | none => simp [hB] at h1
            | some bb =>
              cases bb with
              | box => simp [hB] at h1
              | tree => simp [hB] at h1
              | row E κ l sh =>
                cases sh with
                | true => simp [hB] at h1
                | false =>
                  simp only [hB] at h1
                  cases hs : Nat.beq sz κ.sz with
                  | false => simp [hs] at h1
                  | true =>
                    cases hb : Nat.ble (j + i.size) κ.sz with
                    | false => simp [hs, hb] at h1
                    | true =>
                      simp only [hs, hb] at h1
                      have hsz' : sz = κ.sz := Nat.eq_of_beq_eq_true hs
                      subst hsz'
                      have hle := Nat.le_of_ble_eq_true hb
                      have main : ∃ y, k < l.length ∧ κ.enc y = (((κ.enc (l.getD k κ.dflt)).take j) ++ ds ++ ((κ.enc (l.getD k κ.dflt)).drop (j + i.size))) ∧
                          (AState.setB ⟨n, tm, blk⟩ id (.row E κ (l.set k y) false)).put o.dst .any K := by
                        cases hq : Nat.beq i.size κ.sz with
                        | true =>
                          simp only [hq] at h1
                          obtain ⟨hk, h1⟩ := h1
                          cases hd : κ.dec (((κ.enc (l.getD k κ.dflt)).take j) ++ ds ++ ((κ.enc (l.getD k κ.dflt)).drop (j + i.size))) with
                          | none => simp only [hd] at h1
                          | some y => simp only [hd] at h1; exact ⟨y, hk, Vg.K.dec_enc hd, h1⟩
                        | false =>
                          simp only [hq] at h1
                          split at h1
                          case h_2 => exact h1.elim
                          rename_i d hi1
                          cases hd : κ.put1 (l.getD k κ.dflt) j d with
                          | none => simp only [hd] at h1
                          | some y => simp only [hd] at h1; exact ⟨y, h1.1, by rw [hi1]; exact Vg.K.put1_enc hd, h1.2 _ rfl⟩
                      obtain ⟨y, hk, henc, h1⟩ := main
                      · have hbl := hR'.env.bl id _ hB
                        have hpv' := hpv
                        generalize hu : a.eval pa = u at hpv'
                        cases hpv' with
                        | rptr _ _ _ _ r hr =>
                          simp only [BlkR, hr] at hbl
                          obtain ⟨hb1, hb2, hb3, cur, T0, hh, hcsz, hcc⟩ := hbl
                          have hkk : (k + 1) * κ.sz ≤ r.cap * κ.sz := Nat.mul_le_mul_right _ (by omega)
                          rw [Nat.add_mul] at hkk
                          have hho : k * κ.sz + j + (a.eval x).cells.toList.length ≤ cur.size := by rw [hll, hcsz]; omega
                          have hos := setRow_os w r.b (over cur (k * κ.sz + j) (a.eval x).cells.toList)
                          refine fin hu hh (by rw [hcsz]; omega) h1 ⟨ρ, Im', ?_⟩
                          have hheap : (w.setRow r.b (over cur (k * κ.sz + j) (a.eval x).cells.toList)).heap[r.b]? = some (.cells (over cur (k * κ.sz + j) (a.eval x).cells.toList) T0 (0, 0)) := setRow_heap w r.b cur _ T0 _ hh
                          have hIm : ∀ o', ¬ Im' r.b o' := fun o' hI => by
                            have := (hR'.env.imOwn id _ r o' hB hr).1 hI
                            simp [Blk.pinned] at this
                          have hce : ∀ b o', Im' b o' → hcell (w.setRow r.b (over cur (k * κ.sz + j) (a.eval x).cells.toList)).heap b o' = hcell w.heap b o' := fun b o' hI => by
                            refine hcell_of_block (setRow_other w r.b b _ (fun e => ?_)) o'
                            subst e; exact hIm o' hI
                          refine hR'.write (b' := .row E κ (l.set k y) false) hB hr (fun k' hk' => setRow_other w r.b k' _ hk') (fun o' hI => absurd hI (hIm o')) (by rw [hos.2.2.2]; exact Nat.le_refl _) hos.1 hos.2.1 hos.2.2.1
                            (fun _ _ x => x) (fun _ _ x => .inl x) ?_ (fun o' => ⟨fun hI => absurd hI (hIm o'), fun h => by simp [Blk.pinned] at h⟩)
                          simp only [BlkR, hr]
                          refine ⟨by simpa using hb1, hb2, hb3, _, _, hheap, by rw [over_size _ _ _ hho]; exact hcsz, fun k' j' hk' hj' => ?_⟩
                          simp only [List.length_set] at hk'
                          rw [over_get _ _ _ hho, hll]
                          obtain ⟨c0, hc1, hc2⟩ := hcc k' j' hk' hj'
                          by_cases hkk' : k' = k
                          · subst hkk'
                            have hg : (l.set k' y).getD k' κ.dflt = y := by simp [List.getD_eq_getElem?_getD, hk]
                            have hdsl : ds.length = i.size := by rw [hdl, hlen]
                            simp only [cellOf, hg, henc]
                            rw [splice_getD _ ds j i.size j' _ hdsl (by rw [κ.enc_length]; exact hle)]
                            by_cases hin : j ≤ j' ∧ j' < j + i.size
                            · rw [if_pos (by omega), if_pos hin]
                              have hjj : j' - j < ds.length := by omega
                              have h5 := hds (j' - j) _ (List.getElem?_eq_getElem hjj)
                              have hlt : j' - j < (a.eval x).cells.size := by omega
                              refine ⟨(a.eval x).cells[j' - j], ?_, ?_⟩
                              · rw [show k' * κ.sz + j' - (k' * κ.sz + j) = j' - j from by omega, Array.getElem?_toList, Array.getElem?_eq_getElem hlt]
                              · simp only [Array.getD_eq_getD_getElem?, Array.getElem?_eq_getElem hlt, Option.getD_some] at h5
                                rw [List.getD_eq_getElem?_getD, List.getElem?_eq_getElem hjj]
                                exact h5.mono hce (fun _ _ x => x)
                            · rw [if_neg (by omega), if_neg hin]
                              exact ⟨c0, hc1, hc2.mono hce (fun _ _ x => x)⟩
                          · have hnin : ¬ (k * κ.sz + j ≤ k' * κ.sz + j' ∧ k' * κ.sz + j' < k * κ.sz + j + i.size) := by
                              rcases Nat.lt_or_gt_of_ne hkk' with hlt | hgt
                              · have : (k' + 1) * κ.sz ≤ k * κ.sz := Nat.mul_le_mul_right _ hlt
                                rw [Nat.add_mul] at this; omega
                              · have : (k + 1) * κ.sz ≤ k' * κ.sz := Nat.mul_le_mul_right _ hgt
                                rw [Nat.add_mul] at this; omega
                            rw [if_neg hnin]
                            have hg : (l.set k y).getD k' κ.dflt = l.getD k' κ.dflt := by simp [List.getD_eq_getElem?_getD, List.getElem?_set_ne (fun e => hkk' e.symm)]
                            refine ⟨c0, hc1, ?_⟩
                            simp only [cellOf, hg]
                            exact hc2.mono hce (fun _ _ x => x)
          · exact hst.elim
end
end Vg
