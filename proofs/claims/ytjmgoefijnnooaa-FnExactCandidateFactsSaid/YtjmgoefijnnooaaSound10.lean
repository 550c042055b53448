/- Literals and makes of slices; stores. -/
import Derived.Test.YtjmgoefijnnooaaSound9
namespace Vg
open Go

section
variable {P : Program} {τ : Tys} {Im Im' : Nat → Nat → Prop} {ρ ρ' : Rho} {h h' : Array Obj} {w w' : World}
variable {w0 : World} {G : GP} {Im0 : Nat → Nat → Prop} {S : AState} {a : Act} {n : Nat} {tm : Nat → AV} {blk : Nat → Option Blk}

/-- a new row -/
theorem Rel.newRow (hR : Rel w0 G Im0 ⟨n, tm, blk⟩ ρ Im a w) {t E cap : Nat} {κ : K} {l : List κ.T} (ht : t < n ∧ t < 900000) {cs : Array Value} (hh : w'.heap = w.heap.push (.cells cs E))
    (ho : w'.os = w.os) (htp : w'.tape = w.tape) (hout : w'.output = w.output) (hcap : l.length ≤ cap) (hmax : cap ≤ maxLen) (hsz : cs.size = cap * κ.sz)
    (hc : ∀ k j, k < l.length → j < κ.sz → ∃ c, cs[k * κ.sz + j]? = some c ∧ RepD w.heap Im (cellOf κ l k j) c) :
    Rel w0 G Im0 ⟨n, updT (killT tm t) t (.row t), updB (killB blk t) t (some (.row E κ l false))⟩ (updR ρ t (some (.at w.heap.size cap l.length))) Im
      (a.put (some t) (.slice (some ⟨w.heap.size, 0, none⟩) l.length cap)) w' := by
  have hlt : ∀ b o, Im b o → hcell w'.heap b o = hcell w.heap b o := fun b o hI => hcell_of_block (by rw [hh]; exact heap_push_lt (hR.env.imlt b o hI)) o
  refine hR.new ht (fun b hb => by rw [hh]; exact heap_push_lt hb) (by rw [hh]; simp) ho htp hout (fun r hr => ?_) ?_ rfl ?_
  · cases hr; exact ⟨Nat.le_refl _, fun _ h => h⟩
  · simp only [BlkR, updR_same]
    refine ⟨trivial, hcap, hmax, cs, _, by rw [hh]; exact heap_push_new _ _, hsz, fun k j hk hj => ?_⟩
    obtain ⟨c, h1, h2⟩ := hc k j hk hj
    exact ⟨c, h1, h2.mono hlt (fun _ _ x => x)⟩
  · exact .row t (.at w.heap.size cap l.length) (updR_same _ _ _)

theorem buildSlice_ok (hτ : TysOk P τ) {o : Oper} {T t len E : Nat} {κ κ' : K} {i ie : TyI} {parts : Array (Nat × Operand)} {K : AState → Prop} (hop : o.op = .buildSlice T len parts) (hdst : o.dst = some t)
    (hT : τ T = some i) (hd : i.desc = .slice E κ') (hE : τ E = some ie) (hsz : ie.size = κ.sz) (hlen : parts.toList.length = len) (hbig : len * ie.size ≤ 16777216)
    (h : elemsF κ ie.zeroD (ev S) 0 parts.toList S fun S ys => S.new t (.row E κ ys false) (.row t) K)
    (hR : Rel w0 G Im0 S ρ Im a w) {next : Act → World → Prop} {Q : Exit → Act → World → Prop}
    (hn : ∀ S' a' w', K S' → RelE w0 G Im0 S' a' w' → next a' w') : o.wp P a w next Q := by
  obtain ⟨d, hdd, _, hdesc⟩ := (hτ T i hT).und
  simp only [hd] at hdesc
  subst hdesc
  obtain ⟨S', ys, Im', h1, hR', hI, hyl, hys⟩ := elemsF_ok (by rw [(hτ E ie hE).zsz.2, hsz]) (ev_rel hR) 0 parts.toList S Im _ h hR (fun _ _ x => x)
  obtain ⟨n, tm, blk, rfl, ht, hK⟩ := new_ok h1
  obtain ⟨z, hz, hzc⟩ := run_zero (hτ E ie hE) w
  have hpos : 0 < κ.sz := κ.sz_pos
  -- the zero cells
  obtain ⟨zc, hzc'⟩ : ∃ zc : Array Value, zc = if len * ie.size = 0 then #[] else z.cells := ⟨_, rfl⟩
  obtain ⟨cs, hcs⟩ : ∃ cs : Array Value, cs = (Array.range (len * ie.size)).map (zc[· % zc.size]!) := ⟨_, rfl⟩
  have hcsz : cs.size = len * ie.size := by rw [hcs]; simp
  have hps : ∀ (m : Nat) (p : Nat × Value), (parts.toList.map fun x => (x.1, a.eval x.2))[m]? = some p → ∃ q, parts.toList[m]? = some q ∧ p = (q.1, a.eval q.2) := by
    intro m p hp
    rw [List.getElem?_map] at hp
    cases hq : parts.toList[m]? with
    | none => simp [hq] at hp
    | some q => simp [hq] at hp; exact ⟨q, rfl, hp.symm⟩
  obtain ⟨out, hf1, hf2, _, hf4⟩ := fill_rows κ.sz (parts.toList.map fun x => (x.1, a.eval x.2)) 0 cs (fun m p hp => by
      obtain ⟨q, hq, rfl⟩ := hps m p hp
      obtain ⟨q1, q2, _⟩ := hys m q hq
      exact ⟨q1, q2⟩) (by simp only [List.length_map, Nat.zero_add, hlen, hcsz, hsz]; exact Nat.le_refl _)
  have hle : ¬ (len * ie.size > 2 ^ 24) := by simpa using hbig
  have hrun : (execOp a.eval o).run P w = .ok (.value (.slice (some ⟨w.heap.size, 0, none⟩) len len)) (w.alloc (.cells out E)) := by
    have : (Instr.buildSlice T len (parts.map fun x => (x.1, a.eval x.2))).run P w = .ok (.slice (some ⟨w.heap.size, 0, none⟩) len len) (w.alloc (.cells out E)) := by
      by_cases h0 : len * ie.size = 0
      · rw [if_pos h0] at hzc'
        subst hzc'
        simp only [Instr.buildSlice, Sem.run_bind, run_und hdd, Result.andThen_ok, run_sizeOf (hτ E ie hE), h0, if_true, pure_bind]
        rw [h0] at hcs
        simp only [Array.toList_map, hsz, ← hcs, hf1, newRow]
        rfl
      · rw [if_neg h0] at hzc'
        subst hzc'
        simp only [Instr.buildSlice, Sem.run_bind, run_und hdd, Result.andThen_ok, run_sizeOf (hτ E ie hE), if_neg hle, if_neg h0, hz, Sem.run_pure]
        rw [hsz] at hcs
        simp only [Array.toList_map, hsz, ← hcs, hf1, newRow]
        rfl
    simp only [execOp, hop, Sem.run_bind]
    rw [this]; rfl
  unfold Oper.wp
  rw [hrun]
  simp only [Oper.upon, hdst]
  have hlenE : len = ys.length := by rw [hyl, hlen]
  subst hlenE
  have hmax : ys.length ≤ maxLen := by
    have : ys.length * 1 ≤ ys.length * ie.size := Nat.mul_le_mul_left _ (by omega)
    unfold maxLen; omega
  refine hn _ _ _ hK ⟨_, _, hR'.newRow (w' := w.alloc (.cells out E)) ht rfl rfl rfl rfl (Nat.le_refl _) hmax (by rw [hf2, hcsz, hsz]) (fun k j hk hj => ?_)⟩
  have hkp : k < parts.toList.length := by omega
  obtain ⟨_, _, q3⟩ := hys k _ (List.getElem?_eq_getElem hkp)
  obtain ⟨c, hc1, hc2⟩ := q3 j hj
  refine ⟨c, ?_, hc2⟩
  have := hf4 k (parts.toList[k].1, a.eval parts.toList[k].2) (by rw [List.getElem?_map, List.getElem?_eq_getElem hkp]; rfl) j hj
  rw [Nat.zero_add] at this
  rw [this]; exact hc1

theorem makeSlice_ok (hτ : TysOk P τ) {o : Oper} {T t E : Nat} {κ κ' : K} {i ie : TyI} {x y : Operand} {z0 : κ.T} {l m : Int} {K : AState → Prop} (hop : o.op = .makeSlice T x y) (hdst : o.dst = some t)
    (hT : τ T = some i) (hd : i.desc = .slice E κ') (hE : τ E = some ie) (hsz : ie.size = κ.sz) (hz0 : κ.dec ie.zeroD = some z0) (hx : ev S x = .dat (.int .i64 l)) (hy : ev S y = .dat (.int .i64 m))
    (hb : 0 ≤ l ∧ l ≤ m ∧ m * ie.bytes ≤ 140737488355328 ∧ m ≤ maxLen)
    (h : S.new t (.row E κ (List.replicate l.toNat z0) false) (.row t) K)
    (hR : Rel w0 G Im0 S ρ Im a w) {next : Act → World → Prop} {Q : Exit → Act → World → Prop}
    (hn : ∀ S' a' w', K S' → RelE w0 G Im0 S' a' w' → next a' w') : o.wp P a w next Q := by
  obtain ⟨d, hdd, _, hdesc⟩ := (hτ T i hT).und
  simp only [hd] at hdesc
  subst hdesc
  have hxv := ev_rel hR x
  rw [hx] at hxv
  have hxe := dat_int hxv
  have hyv := ev_rel hR y
  rw [hy] at hyv
  have hye := dat_int hyv
  obtain ⟨xi, z, hxi, hxs, hxb, hxz, hzc⟩ := (hτ E ie hE).info
  obtain ⟨n, tm, blk, rfl, ht, hK⟩ := new_ok h
  have hmm : m ≤ 9223372036854775807 := by have := hb.2.2.2; unfold maxLen at this; omega
  have hrun := run_make (P := P) w T E xi z hdd hxi hxz .i64 .i64 l m hb.1 hb.2.1 (by rw [hxb, Int.mul_comm]; omega) hmm
  have hrun' : (execOp a.eval o).run P w = .ok (.value (.slice (some ⟨w.heap.size, 0, none⟩) l.toNat m.toNat)) (w.alloc (.cells (madeCells z.cells (m.toNat * xi.size)) E)) := by
    simp only [execOp, hop, hxe, hye, Sem.run_bind]
    rw [hrun]; rfl
  unfold Oper.wp
  rw [hrun']
  simp only [Oper.upon, hdst]
  have hzs : z.cells.size = κ.sz := by rw [hzc, List.size_toArray, (hτ E ie hE).zsz.1, hsz]
  have e : l.toNat = (List.replicate l.toNat z0).length := by simp
  have hmn : m.toNat ≤ maxLen := by have := hb.2.2.2; omega
  have key := hR.newRow (w' := w.alloc (.cells (madeCells z.cells (m.toNat * xi.size)) E)) (E := E) (cap := m.toNat) (κ := κ) (l := List.replicate l.toNat z0) ht rfl rfl rfl rfl (by simp; omega) hmn
    (by rw [size_madeCells, hxs, hsz]) (fun k j hk hj => by
      have hk' : k < l.toNat := by simpa using hk
      obtain ⟨dz, hdz1, hdz2⟩ := enc_of_dec hz0 j hj
      obtain ⟨v, hv1, _, hv2⟩ := (hτ E ie hE).zrep j dz hdz1
      refine ⟨v, ?_, ?_⟩
      · have hlt : k * κ.sz + j < m.toNat * κ.sz := by
          have : (k + 1) * κ.sz ≤ m.toNat * κ.sz := Nat.mul_le_mul_right _ (by omega)
          rw [Nat.add_mul] at this; omega
        have hmod : (k * κ.sz + j) % κ.sz = j := by rw [Nat.mul_comm, Nat.mul_add_mod, Nat.mod_eq_of_lt hj]
        have hjz : j < z.cells.size := by omega
        have hvz : z.cells[j]? = some v := by rw [hzc]; simpa using hv1
        have hin : k * κ.sz + j < (madeCells z.cells (m.toNat * xi.size)).size := by rw [size_madeCells, hxs, hsz]; exact hlt
        rw [Array.getElem?_eq_getElem hin]
        simp only [madeCells, Array.getElem_map, Array.getElem_range, hzs, hmod]
        rw [getElem!_pos z.cells j hjz]
        rw [Array.getElem?_eq_getElem hjz] at hvz
        exact hvz
      · have : (List.replicate l.toNat z0).getD k κ.dflt = z0 := by simp [List.getD_eq_getElem?_getD, hk']
        simp only [cellOf, this, hdz2]
        exact hv2 _ _)
  rw [← e] at key
  exact hn _ _ _ hK ⟨_, _, key⟩
theorem hollowT {d : Dat} {v : Value} {F : Nat → Prop} (hr : RepD h Im d v) (hd : d.hollow = true) (hv : Value.hollow v = true) : RepT h d v F := by
  cases hr with
  | int k n => exact .int k n F
  | bool b => exact .bool b F
  | str s => exact .str s F
  | empty κ l hl a cap =>
    cases a with
    | some a => simp [Value.hollow] at hv
    | none =>
      cases cap with
      | succ c => simp [Value.hollow] at hv
      | zero => exact .nil κ l hl F
  | seq κ l b o cap cf => simp [Value.hollow] at hv

/-- a new tree, its elements' slices nil -/
theorem Rel.newTree (hR : Rel w0 G Im0 ⟨n, tm, blk⟩ ρ Im a w) {t E cap : Nat} {κ : K} {l : List κ.T} (ht : t < n ∧ t < 900000) {cs : Array Value} (hh : w'.heap = w.heap.push (.cells cs E))
    (ho : w'.os = w.os) (htp : w'.tape = w.tape) (hout : w'.output = w.output) (hcap : l.length ≤ cap) (hmax : cap ≤ maxLen) (hsz : cs.size = cap * κ.sz)
    (hc : ∀ k j, k < l.length → j < κ.sz → ∃ c, cs[k * κ.sz + j]? = some c ∧ RepT w.heap (cellOf κ l k j) c (fun _ => False)) :
    Rel w0 G Im0 ⟨n, updT (killT tm t) t (.row t), updB (killB blk t) t (some (.tree E κ l))⟩ (updR ρ t (some (.at w.heap.size cap l.length))) Im
      (a.put (some t) (.slice (some ⟨w.heap.size, 0, none⟩) l.length cap)) w' := by
  refine hR.new ht (fun b hb => by rw [hh]; exact heap_push_lt hb) (by rw [hh]; simp) ho htp hout (fun r hr => ?_) ?_ rfl ?_
  · cases hr; exact ⟨Nat.le_refl _, fun _ h => h⟩
  · simp only [BlkR, updR_same]
    refine ⟨trivial, hcap, hmax, cs, fun _ _ _ => False, _, by rw [hh]; exact heap_push_new _ _, hsz, fun _ _ _ _ _ h => h.elim, fun _ _ _ _ _ _ _ _ _ h => h.elim, fun k j hk hj => ?_⟩
    obtain ⟨c, h1, h2⟩ := hc k j hk hj
    exact ⟨c, h1, h2.mono fun _ h => h.elim⟩
  · exact .row t (.at w.heap.size cap l.length) (updR_same _ _ _)

theorem makeSliceT_ok (hτ : TysOk P τ) {o : Oper} {T t E : Nat} {κ κ' : K} {i ie : TyI} {x y : Operand} {z0 : κ.T} {l m : Int} {K : AState → Prop} (hop : o.op = .makeSlice T x y) (hdst : o.dst = some t)
    (hT : τ T = some i) (hd : i.desc = .slice E κ') (hE : τ E = some ie) (hsz : ie.size = κ.sz) (hz0 : κ.dec ie.zeroD = some z0) (hx : ev S x = .dat (.int .i64 l)) (hy : ev S y = .dat (.int .i64 m))
    (hb : 0 ≤ l ∧ l ≤ m ∧ m * ie.bytes ≤ 140737488355328 ∧ m ≤ maxLen)
    (hz : (ie.zero.all Value.hollow && ie.zeroD.all Dat.hollow) = true) (h : S.new t (.tree E κ (List.replicate l.toNat z0)) (.row t) K)
    (hR : Rel w0 G Im0 S ρ Im a w) {next : Act → World → Prop} {Q : Exit → Act → World → Prop}
    (hn : ∀ S' a' w', K S' → RelE w0 G Im0 S' a' w' → next a' w') : o.wp P a w next Q := by
  obtain ⟨d, hdd, _, hdesc⟩ := (hτ T i hT).und
  simp only [hd] at hdesc
  subst hdesc
  have hxv := ev_rel hR x
  rw [hx] at hxv
  have hxe := dat_int hxv
  have hyv := ev_rel hR y
  rw [hy] at hyv
  have hye := dat_int hyv
  obtain ⟨xi, z, hxi, hxs, hxb, hxz, hzc⟩ := (hτ E ie hE).info
  obtain ⟨n, tm, blk, rfl, ht, hK⟩ := new_ok h
  have hmm : m ≤ 9223372036854775807 := by have := hb.2.2.2; unfold maxLen at this; omega
  have hrun := run_make (P := P) w T E xi z hdd hxi hxz .i64 .i64 l m hb.1 hb.2.1 (by rw [hxb, Int.mul_comm]; omega) hmm
  have hrun' : (execOp a.eval o).run P w = .ok (.value (.slice (some ⟨w.heap.size, 0, none⟩) l.toNat m.toNat)) (w.alloc (.cells (madeCells z.cells (m.toNat * xi.size)) E)) := by
    simp only [execOp, hop, hxe, hye, Sem.run_bind]
    rw [hrun]; rfl
  unfold Oper.wp
  rw [hrun']
  simp only [Oper.upon, hdst]
  have hzs : z.cells.size = κ.sz := by rw [hzc, List.size_toArray, (hτ E ie hE).zsz.1, hsz]
  have e : l.toNat = (List.replicate l.toNat z0).length := by simp
  have hmn : m.toNat ≤ maxLen := by have := hb.2.2.2; omega
  have key := hR.newTree (w' := w.alloc (.cells (madeCells z.cells (m.toNat * xi.size)) E)) (E := E) (cap := m.toNat) (κ := κ) (l := List.replicate l.toNat z0) ht rfl rfl rfl rfl (by simp; omega) hmn
    (by rw [size_madeCells, hxs, hsz]) (fun k j hk hj => by
      have hk' : k < l.toNat := by simpa using hk
      obtain ⟨dz, hdz1, hdz2⟩ := enc_of_dec hz0 j hj
      obtain ⟨v, hv1, _, hv2⟩ := (hτ E ie hE).zrep j dz hdz1
      refine ⟨v, ?_, ?_⟩
      · have hlt : k * κ.sz + j < m.toNat * κ.sz := by
          have : (k + 1) * κ.sz ≤ m.toNat * κ.sz := Nat.mul_le_mul_right _ (by omega)
          rw [Nat.add_mul] at this; omega
        have hmod : (k * κ.sz + j) % κ.sz = j := by rw [Nat.mul_comm, Nat.mul_add_mod, Nat.mod_eq_of_lt hj]
        have hjz : j < z.cells.size := by omega
        have hvz : z.cells[j]? = some v := by rw [hzc]; simpa using hv1
        have hin : k * κ.sz + j < (madeCells z.cells (m.toNat * xi.size)).size := by rw [size_madeCells, hxs, hsz]; exact hlt
        rw [Array.getElem?_eq_getElem hin]
        simp only [madeCells, Array.getElem_map, Array.getElem_range, hzs, hmod]
        rw [getElem!_pos z.cells j hjz]
        rw [Array.getElem?_eq_getElem hjz] at hvz
        exact hvz
      · have : (List.replicate l.toNat z0).getD k κ.dflt = z0 := by simp [List.getD_eq_getElem?_getD, hk']
        simp only [cellOf, this, hdz2]
        rw [Bool.and_eq_true, List.all_eq_true, List.all_eq_true] at hz
        exact hollowT (hv2 w.heap Im) (hz.2 dz (List.mem_of_getElem? hdz1)) (hz.1 v (List.mem_of_getElem? hv1)))
  rw [← e] at key
  exact hn _ _ _ hK ⟨_, _, key⟩
end
end Vg
