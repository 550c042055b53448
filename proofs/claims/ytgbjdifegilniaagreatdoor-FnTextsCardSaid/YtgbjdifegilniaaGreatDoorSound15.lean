/- Maps from names to numbers: made, looked up, written, held against nil. Condition: the table of types is the program's. -/
import Derived.Test.YtgbjdifegilniaaGreatDoorTree
namespace Vg
open Go Go.MapKept
section
variable {P : Program} {τ : Tys} {Im Im' : Nat → Nat → Prop} {ρ ρ' : Rho} {h h' : Array Obj} {w w' : World}
variable {w0 : World} {G : GP} {Im0 : Nat → Nat → Prop} {S : AState} {a : Act} {n : Nat} {tm : Nat → AV} {blk : Nat → Option Blk}
theorem mset_R {es : Array MapEntry} {l : List (ByteArray × Int)} {s : ByteArray} {m : Int} {clock : Nat} (hm : fD es l) :
 (mfind s l 0 = none → fD (es.push { key := .string s, val := .int .i64 m, born := clock }) (w9 l s m)) ∧
 ∀ j x, mfind s l 0 = some (j, x) → fD (es.modify j fun e => { e with key := .string s, val := .int .i64 m }) (w9 l s m) := by
 refine ⟨fun h0 => ?_, fun j x h0 => ?_⟩
 · unfold fD w9 at *
   rw [h0]
   simp only [Array.toList_push, List.map_append, hm, List.map_cons, List.map_nil]
 · unfold fD w9 at *
   rw [h0]
   simp only
   have hj := (zO h0).2.1
   apply List.ext_getElem?
   intro i
   have hi := congrArg (fun q => q[i]?) hm
   simp only [List.getElem?_map, Array.getElem?_toList] at hi
   rw [List.getElem?_map, List.getElem?_map, Array.getElem?_toList, Array.getElem?_modify, List.getElem?_set]
   by_cases e : j = i
   · subst e
     have hlt : j < l.length := by omega
     rw [if_pos rfl, if_pos rfl, if_pos hlt]
     rw [List.getElem?_eq_getElem hlt] at hi
     cases he : es[j]? with
     | none => rw [he] at hi; simp at hi
     | some y => rfl
   · rw [if_neg e, if_neg e]; exact hi
theorem qc4 (hτ : f5 P τ) {o : Oper} {T : Nat} {m k x : Operand} {K : AState → Prop} (hop : o.op = .mapUpdate T m k x)
 (h : jR (τ T) S (ev S m) (ev S k) (ev S x) fun S => S.put o.dst .any K) (hR : Rel w0 G Im0 S ρ Im a w)
 {next : Act → World → Prop} {Q : Exit → Act → World → Prop} (hn : ∀ S' a' w', K S' → f4 w0 G Im0 S' a' w' → next a' w') : o.wp P a w next Q := by
 unfold jR at h
 cases hT : τ T with
 | none => simp [hT] at h
 | some i =>
  simp only [hT] at h
  obtain ⟨d, hdd, _, hdesc⟩ := (hτ T i hT).und
  cases hde : i.desc <;> simp only [hde] at h hdesc <;> try exact h.elim
  obtain ⟨kt, et, rfl, hkt, hz⟩ := hdesc
  split at h
  case h_2 => exact h.elim
  rename_i id s v em ek ex
  have hm := i6 hR m
  have hk := i6 hR k
  have hx := i6 hR x
  rw [em] at hm
  rw [ek] at hk
  rw [ex] at hx
  have hkv := qac hk
  have hxv : a.eval x = .int .i64 v := by
   generalize a.eval x = u at hx
   cases hx with | dat _ _ hd => cases hd; rfl
  split at h
  case h_2 => exact h.elim
  rename_i l z hB
  obtain ⟨hz0, h⟩ := h
  obtain ⟨n, tm, blk⟩ := S
  have hB' : blk id = some (.mp l z) := hB
  have hbl := hR.env.bl id _ hB
  generalize hv : a.eval m = mv at hm
  cases hm with
  | mpN _ hi => simp only [BlkR, hi] at hbl; rw [hbl.1] at hz0; cases hz0
  | mp _ r hi =>
   simp only [BlkR, hi] at hbl
   obtain ⟨_, es, clock, hh, hmr⟩ := hbl
   have hlt : r.b < w.heap.size := (Array.getElem?_eq_some_iff.1 hh).1
   obtain ⟨S', hK, hS'⟩ := yA (w0 := w0) (G := G) (Im0 := Im0) h
   have hset := mset_R (s := s) (m := v) (clock := clock) hmr
   have fin : ∀ o' : Obj, (∃ es' clock', o' = .map es' clock' ∧ fD es' (w9 l s v)) →
    Rel w0 G Im0 ⟨n, tm, updB blk id (some (.mp (w9 l s v) z))⟩ ρ Im a { w with heap := w.heap.setIfInBounds r.b o' } := by
    rintro o' ⟨es', clock', rfl, hm'⟩
    refine hR.write (w' := { w with heap := w.heap.setIfInBounds r.b (.map es' clock') }) (Im' := Im) hB' hi (fun q hq => (heap_set hh).2 q hq) (fun o hIo => ?_) (by simp) rfl rfl rfl (fun _ _ x => x) (fun _ _ x => .inl x) ?_ (fun o => ?_)
    · exact absurd ((hR.env.imOwn id _ r o hB hi).1 hIo) (by simp [Blk.pinned])
    · simp only [BlkR, hi]
      exact ⟨hz0, es', clock', (heap_set hh).1, hm'⟩
    · rw [hR.env.imOwn id _ r o hB hi]; rfl
   have run : ∃ o', (Instr.mapUpdate T (.map (some r.b)) (.string s) (.int .i64 v)).run P w = .ok () { w with heap := w.heap.setIfInBounds r.b o' } ∧ ∃ es' clock', o' = .map es' clock' ∧ fD es' (w9 l s v) := by
    have hf : (Instr.findKey kt (.string s) es.toList).run P w = .ok ((mfind s l 0).map fun x => (x.1, Value.int .i64 x.2)) w := run_findKey hkt (fQ es.toList l 0 hmr)
    have hso : ∀ o', (setObj r.b o').run P w = .ok () { w with heap := w.heap.setIfInBounds r.b o' } := fun o' => run_setObj_map o' hh
    cases hfd : mfind s l 0 with
    | none =>
     rw [hfd] at hf
     refine ⟨.map (es.push { key := .string s, val := .int .i64 v, born := clock }) (clock + 1), ?_, _, _, rfl, hset.1 hfd⟩
     simp only [Instr.mapUpdate, Sem.run_bind, run_map hdd, Result.andThen_ok, run_getObj_map hh, run_checkKey hkt (d := .string) (k := .string s) trivial, hf, Option.map_none, hso]
    | some y =>
     rw [hfd] at hf
     refine ⟨.map (es.modify y.1 fun e => { e with key := .string s, val := .int .i64 v }) clock, ?_, _, _, rfl, hset.2 y.1 y.2 hfd⟩
     have hj := zO hfd
     have hks : ((es[y.1]?).map (·.key)).getD (Value.string s) = .string s := by
      have hi := congrArg (fun q => q[y.1]?) hmr
      simp only [List.getElem?_map, Array.getElem?_toList] at hi
      have h3 := hj.2.2
      rw [Nat.sub_zero] at h3
      cases hl : l[y.1]? with
      | none => rw [hl] at h3; cases h3
      | some q =>
       rw [hl] at h3 hi
       simp at h3 hi
       obtain ⟨e, he, h4, _⟩ := hi
       simp [he, h4, h3]
     simp only [Instr.mapUpdate, Sem.run_bind, run_map hdd, Result.andThen_ok, run_getObj_map hh, run_checkKey hkt (d := .string) (k := .string s) trivial, hf, Option.map_some, hks, run_keyThatStays (d := .string) (k := .string s) trivial, hso]
   obtain ⟨o', hrun, ho'⟩ := run
   have hrun' : (execOp a.eval o).run P w = .ok .skip { w with heap := w.heap.setIfInBounds r.b o' } := by
    simp only [execOp, hop, hv, hkv, hxv, Sem.run_bind, hrun, Result.andThen_ok, Sem.run_pure]
   unfold Oper.wp
   rw [hrun']
   exact hn S' _ _ hK ⟨_, _, hS' (fin o' ho') (.any _)⟩
theorem qc6 {o : Oper} {T t : Nat} {K : AState → Prop} (hop : o.op = .makeMap T none) (hdst : o.dst = some t)
 (h : S.new t (.mp [] false) (.mp t) K) (hR : Rel w0 G Im0 S ρ Im a w) {next : Act → World → Prop} {Q : Exit → Act → World → Prop}
 (hn : ∀ S' a' w', K S' → f4 w0 G Im0 S' a' w' → next a' w') : o.wp P a w next Q := by
 obtain ⟨n, tm, blk, rfl, ht, hK⟩ := nA h
 unfold Oper.wp
 have hrun : (execOp a.eval o).run P w = .ok (.value (.map (some w.heap.size))) { w with heap := w.heap.push (.map #[] 0) } := by
  simp only [execOp, hop, Instr.makeMap, Option.map_none, Sem.run_bind, Result.andThen_ok, run_newObj, Sem.run_pure]
 rw [hrun]
 simp only [Oper.upon, hdst]
 refine hn _ _ _ hK ⟨_, _, hR.new (ro := some (.at w.heap.size 0 0)) ht (fun b hb => wD hb) (by simp) rfl rfl rfl (fun r hr => ?_) ?_ rfl ?_⟩
 · cases hr; exact ⟨Nat.le_refl _, fun _ h => h⟩
 · simp only [BlkR, updR_same]
   exact ⟨trivial, #[], 0, gJ _ _, rfl⟩
 · exact .mp t (.at w.heap.size 0 0) (updR_same _ _ _)
theorem wT {T k e : Nat} (hd : P.underlying T = some (.map k e)) (b : Option Nat) : (Op.equal T (.map b) (.map none)).run P w = .ok b.isNone w := by
 unfold Op.equal
 obtain ⟨d, hd'⟩ : ∃ d, Op.maxDepth = d + 1 := ⟨9999, rfl⟩
 rw [hd']
 simp only [Op.equalIn, Sem.run_bind, run_map hd, Result.andThen_ok]
 cases b <;> rfl
theorem qc2 (hτ : f5 P τ) {o : Oper} {op : BinOp} {T U id : Nat} {x y : Operand} {K : AState → Prop} (hop : o.op = .binOp op T x y U) (ex : ev S x = .mp id) (ey : ev S y = .nilm)
 (h : iR (τ T) op (S.blk id) fun v => S.put o.dst v K) (hR : Rel w0 G Im0 S ρ Im a w)
 {next : Act → World → Prop} {Q : Exit → Act → World → Prop} (hn : ∀ S' a' w', K S' → f4 w0 G Im0 S' a' w' → next a' w') : o.wp P a w next Q := by
 unfold iR at h
 cases hT : τ T with
 | none => simp [hT] at h
 | some i =>
  simp only [hT] at h
  obtain ⟨d, hdd, _, hdesc⟩ := (hτ T i hT).und
  cases hde : i.desc <;> simp only [hde] at h hdesc <;> try exact h.elim
  obtain ⟨kt, et, rfl, _, _⟩ := hdesc
  split at h
  case h_2 => exact h.elim
  rename_i l z hB
  have hx := i6 hR x
  have hy := i6 hR y
  rw [ex] at hx
  rw [ey] at hy
  have hbl := hR.env.bl id _ hB
  have hyv : a.eval y = .map none := by
   generalize a.eval y = u at hy
   cases hy; rfl
  obtain ⟨b, hxv, hb⟩ : ∃ b : Option Nat, a.eval x = .map b ∧ b.isNone = z := by
   generalize a.eval x = u at hx
   cases hx with
   | mp _ r hi => simp only [BlkR, hi] at hbl; exact ⟨_, rfl, hbl.1.symm⟩
   | mpN _ hi => simp only [BlkR, hi] at hbl; exact ⟨_, rfl, hbl.1.symm⟩
  split at h
  · obtain ⟨S', hK, hS'⟩ := yA (w0 := w0) (G := G) (Im0 := Im0) h
    have : (execOp a.eval o).run P w = .ok (.value (.bool z)) w := by
     rw [← hb]; simp [execOp, hop, hxv, hyv, eqGuard, binOp, wT hdd]
    unfold Oper.wp
    rw [this]
    exact hn S' _ _ hK ⟨_, _, hS' hR (p8 _ _)⟩
  · obtain ⟨S', hK, hS'⟩ := yA (w0 := w0) (G := G) (Im0 := Im0) h
    have : (execOp a.eval o).run P w = .ok (.value (.bool !z)) w := by
     rw [← hb]; simp [execOp, hop, hxv, hyv, eqGuard, binOp, wT hdd]
    unfold Oper.wp
    rw [this]
    exact hn S' _ _ hK ⟨_, _, hS' hR (p8 _ _)⟩
  · exact h.elim
end
end Vg
namespace Vg
open Go
section
variable {P : Program} {τ : Tys} {Im Im' : Nat → Nat → Prop} {ρ ρ' ρ2 : Rho} {h h' : Array Obj} {w w' : World}
variable {w0 : World} {G : GP} {Im0 : Nat → Nat → Prop} {S : AState} {a : Act} {n : Nat} {tm : Nat → AV} {blk : Nat → Option Blk}
theorem xT {T E : Nat} (hd : P.underlying T = some (.slice E)) (b : Option Addr) (n c : Nat) : (Op.equal T (.slice b n c) (.slice none 0 0)).run P w = .ok b.isNone w := by
 unfold Op.equal
 obtain ⟨d, hd'⟩ : ∃ d, Op.maxDepth = d + 1 := ⟨9999, rfl⟩
 rw [hd']
 simp only [Op.equalIn, Sem.run_bind, j7 hd, Result.andThen_ok]
 cases b <;> rfl
theorem dC [hT : Nonempty (TabH w0.heap Im0)] (hτ : f5 P τ) {o : Oper} {K : AState → Prop} (h : pval P τ (ev S) S.blk o.op fun v => force v fun v => S.put o.dst v K) (hR : Rel w0 G Im0 S ρ Im a w)
 {next : Act → World → Prop} {Q : Exit → Act → World → Prop} (hn : ∀ S' a' w', K S' → f4 w0 G Im0 S' a' w' → next a' w') : o.wp P a w next Q := by
 obtain ⟨av, h1, _, h2⟩ := yU hτ hR h
 rw [oB] at h1
 obtain ⟨S', hK, hS'⟩ := yA (w0 := w0) (G := G) (Im0 := Im0) h1
 exact h2 next Q fun v w' Im' hR' hv => hn S' _ _ hK ⟨_, _, hS' hR' hv⟩
theorem qem [hT : Nonempty (TabH w0.heap Im0)] (hτ : f5 P τ) {o : Oper} {T id : Nat} {x : Operand} {lo hi : Option Operand} {K : AState → Prop} (hop : o.op = .slice T x lo hi none) (hx : ev S x = .row id)
 (h : tP P τ S o.dst T x lo hi id K) (hR : Rel w0 G Im0 S ρ Im a w)
 {next : Act → World → Prop} {Q : Exit → Act → World → Prop} (hn : ∀ S' a' w', K S' → f4 w0 G Im0 S' a' w' → next a' w') : o.wp P a w next Q := by
 unfold tP at h
 split at h
 · rename_i s
   split at h
   rename_i n tm blk
   split at h
   · rename_i E κ l sh hB
     obtain ⟨Im', hR', hI, hv⟩ := hR.freeze hB
     have ht : tm s = .row id := hx
     rw [← hop] at h
     refine dC hτ (S := ⟨n, m5 tm s (.dat (.seq κ l)), updB blk id (some (.row E κ l true))⟩) h ⟨hR'.defers, hR'.size, fun t => ?_, hR'.env, hR'.ext⟩ hn
     show AVR _ _ _ (m5 tm s (.dat (.seq κ l)) t) _
     unfold m5
     split
     · rename_i e
       have e' := Nat.eq_of_beq_eq_true e
       subst e'
       have h1 := hR.tm t
       change AVR _ _ _ (tm t) _ at h1
       rw [ht] at h1
       exact .dat _ _ (hv _ h1)
     · exact hR'.tm t
   · exact h.elim
 · exact h.elim
theorem vP : ∀ (l : List Nat) (S : AState) (Im : Nat → Nat → Prop) (K : AState → Prop), iJ l S K → Rel w0 G Im0 S ρ Im a w → ∃ S' Im', K S' ∧ Rel w0 G Im0 S' ρ Im' a w ∧ ∀ x, ev S' x = ev S x
 | [], S, Im, K, h, hR => ⟨S, Im, h, hR, fun _ => rfl⟩
 | i :: l, ⟨n, tm, blk⟩, Im, K, h, hR => by
  simp only [iJ] at h
  split at h
  · rename_i T κ x sh hB
    obtain ⟨Im1, hR1, _, _⟩ := hR.freeze hB
    obtain ⟨S', Im', h1, h2, h3⟩ := vP l _ Im1 K h hR1
    exact ⟨S', Im', h1, h2, fun y => (h3 y).trans (by cases y <;> rfl)⟩
  · exact vP l _ Im K h hR
theorem qba [hT : Nonempty (TabH w0.heap Im0)] (hR : Rel w0 G Im0 S ρ Im a w) {o : Oper} {f : Operand} {args : Array Operand} {ts : Array Nat} {g : Nat} {K : AState → Prop}
 (ho : o.op = .call { callee := .value f, args := args, argTypes := ts }) (hf : ev S f = .fn g [])
 (h : xM P τ S o.dst g ts.toList (args.toList.map (ev S)) K) {next : Act → World → Prop} {Q : Exit → Act → World → Prop}
 (hn : ∀ S' a' w', K S' → f4 w0 G Im0 S' a' w' → next a' w') : o.wp P a w next Q := by
 unfold xM at h
 rw [kJ] at h
 obtain ⟨S', Im', h1, h2, h3⟩ := vP _ S Im _ h hR
 have e : args.toList.map (ev S) = args.toList.map (ev S') := List.map_congr_left fun x _ => (h3 x).symm
 rw [e] at h1
 exact oZ h2 ho ((h3 f).trans hf) h1 hn
theorem wS [hT : Nonempty (TabH w0.heap Im0)] (hτ : f5 P τ) {o : Oper} {K : AState → Prop} (h : step P τ o S K) (hR : Rel w0 G Im0 S ρ Im a w)
 {next : Act → World → Prop} {Q : Exit → Act → World → Prop} (hn : ∀ S' a' w', K S' → f4 w0 G Im0 S' a' w' → next a' w') : o.wp P a w next Q := by
 unfold step at h
 cases hop : o.op <;> simp only [hop] at h
 case alloc T =>
  cases hd : o.dst with
  | none => simp [hd] at h
  | some t =>
   cases hT : τ T with
   | none => simp [hd, hT] at h
   | some i =>
    simp only [hd, hT, forceL_eq] at h
    cases ha : (i.zero.map yB).all AV.oneC with
    | false => simp only [ha] at h
    | true =>
     simp only [ha] at h
     cases hb : bldN (i.zero.map yB) T with
     | false => simp only [hb] at h
     | true => simp only [hb] at h; exact qfq hτ hop hd hT hb h hR hn
 case box T x =>
  cases hd : o.dst with
  | none => simp [hd] at h
  | some t =>
   cases hT : τ T with
   | none => simp [hd, hT] at h
   | some i =>
    cases hc : (ev S x).cells1 with
    | none => simp [hd, hT, hc] at h
    | some vs =>
     simp only [hd, hT, hc, forceL_eq] at h
     cases ha : vs.all AV.oneC with
     | false => simp only [ha] at h
     | true =>
      simp only [ha] at h
      cases hb : x9 vs with
      | true => simp only [hb] at h
      | false => simp only [hb] at h; exact box_ok hop hd hc hb h hR hn
 case buildSlice T len parts =>
  cases hd : o.dst with
  | none => simp [hd] at h
  | some t =>
   cases hT : τ T with
   | none => simp [hd, hT] at h
   | some i =>
    simp only [hd, hT] at h
    cases hde : i.desc <;> simp only [hde] at h <;> try exact h.elim
    rename_i E κ
    cases hE : τ E with
    | none => simp [hE] at h
    | some ie =>
     simp only [hE] at h
     cases h1 : Nat.beq ie.size κ.sz with
     | false => simp only [h1] at h
     | true =>
      cases h2 : Nat.beq parts.toList.length len with
      | false => simp only [h1, h2] at h
      | true =>
       cases h3 : Nat.ble (len * ie.size) 16777216 with
       | false => simp only [h1, h2, h3] at h
       | true =>
        simp only [h1, h2, h3] at h
        cases hf : κ.flat with
        | true => simp only [hf] at h; exact qaw hτ hop hd hT hde hE (Nat.eq_of_beq_eq_true h1) (Nat.eq_of_beq_eq_true h2) (Nat.le_of_ble_eq_true h3) h hR hn
        | false =>
         simp only [hf] at h
         rcases h with ⟨h⟩ | ⟨h⟩
         · exact qaw hτ hop hd hT hde hE (Nat.eq_of_beq_eq_true h1) (Nat.eq_of_beq_eq_true h2) (Nat.le_of_ble_eq_true h3) h hR hn
         · exact qfc hτ hop hd hT hde hE (Nat.eq_of_beq_eq_true h1) (Nat.eq_of_beq_eq_true h2) (Nat.le_of_ble_eq_true h3) h hR hn
 case makeSlice T l c =>
  cases hd : o.dst with
  | none => simp [hd] at h
  | some t =>
   cases hT : τ T with
   | none => simp [hd, hT] at h
   | some i =>
    simp only [hd, hT] at h
    cases hde : i.desc <;> simp only [hde] at h <;> try exact h.elim
    rename_i E κ
    cases hE : τ E with
    | none => simp [hE] at h
    | some ie =>
     simp only [hE] at h
     cases h1 : Nat.beq ie.size κ.sz with
     | false => simp only [h1] at h
     | true =>
      cases h2 : κ.dec ie.zeroD with
      | none => simp only [h1, h2] at h
      | some z =>
       simp only [h1, h2] at h
       split at h
       · rename_i l' m' e1 e2
         obtain ⟨hb, h⟩ := h
         cases hf : κ.flat with
         | true =>
          simp only [hf] at h
          exact qW hτ hop hd hT hde hE (Nat.eq_of_beq_eq_true h1) h2 e1 e2 hb h hR hn
         | false =>
          simp only [hf] at h
          rcases h with ⟨h⟩ | ⟨h⟩
          · exact qW hτ hop hd hT hde hE (Nat.eq_of_beq_eq_true h1) h2 e1 e2 hb h hR hn
          · cases hz : (ie.zero.all Value.hollow && ie.zeroD.all Dat.hollow) with
            | false => simp only [hz] at h
            | true => simp only [hz] at h; exact qc5 hτ hop hd hT hde hE (Nat.eq_of_beq_eq_true h1) h2 e1 e2 hb hz h hR hn
       · exact h.elim
 case slice T x lo hi mx =>
  cases mx with
  | some m =>
   cases lo with
   | some l0 => simp only at h; rw [← hop] at h; exact dC hτ h hR hn
   | none =>
    cases hi with
    | none => simp only at h; rw [← hop] at h; exact dC hτ h hR hn
    | some y =>
     simp only at h
     split at h
     · rename_i id e
       exact qcg hτ hop e h hR hn
     · rw [← hop] at h; exact dC hτ h hR hn
  | none =>
   simp only at h
   split at h
   · rename_i id e
     rcases h with ⟨h⟩ | ⟨h⟩
     · exact qcf hτ hop e h hR hn
     · exact qem hτ hop e h hR hn
   · rw [← hop] at h; exact dC hτ h hR hn
 case store T pa x => exact qfj hτ hop h hR hn
 case makeMap T r =>
  cases r with
  | some x => simp only at h; rw [← hop] at h; exact dC hτ h hR hn
  | none =>
   simp only at h
   cases hd : o.dst with
   | none => simp [hd] at h
   | some t =>
    cases hT : τ T with
    | none => simp [hd, hT] at h
    | some i =>
     simp only [hd, hT] at h
     cases hde : i.desc <;> simp only [hde] at h <;> try exact h.elim
     exact qc6 hop hd h hR hn
 case mapUpdate T m k x => exact qc4 hτ hop h hR hn
 case binOp op T x y U =>
  split at h
  · rename_i κ l ex ey
    cases hT : τ T with
    | none => simp [hT] at h
    | some i =>
     simp only [hT] at h
     obtain ⟨d, hdd, _, hdesc⟩ := (hτ T i hT).und
     cases hde : i.desc <;> simp only [hde] at h hdesc <;> try exact h.elim
     subst hdesc
     have hx := i6 hR x
     have hy := i6 hR y
     rw [ex] at hx
     rw [ey] at hy
     have hyv := yC hy
     obtain ⟨ad, cap, hxv, _, hrest⟩ := (uJ hx).seq_view
     have hlen : ad.isNone = true → l.length = 0 := fun e => by
      cases ad with
      | none =>
       by_cases h0 : l.length = 0
       · exact h0
       · obtain ⟨_, _, _, e', _⟩ := hrest h0; cases e'
      | some _ => simp at e
     unfold anil at h
     split at h
     · obtain ⟨S', hK, hS'⟩ := yA (w0 := w0) (G := G) (Im0 := Im0) (h ad.isNone hlen)
       have : (execOp a.eval o).run P w = .ok (.value (.bool ad.isNone)) w := by
        simp [execOp, hop, hxv, hyv, eqGuard, binOp, xT hdd]
       unfold Oper.wp
       rw [this]
       exact hn S' _ _ hK ⟨_, _, hS' hR (p8 _ _)⟩
     · obtain ⟨S', hK, hS'⟩ := yA (w0 := w0) (G := G) (Im0 := Im0) (h (!ad.isNone) (fun e => hlen (by simpa using e)))
       have : (execOp a.eval o).run P w = .ok (.value (.bool !ad.isNone)) w := by
        simp [execOp, hop, hxv, hyv, eqGuard, binOp, xT hdd]
       unfold Oper.wp
       rw [this]
       exact hn S' _ _ hK ⟨_, _, hS' hR (p8 _ _)⟩
     · exact h.elim
  · rename_i id ex ey
    exact qc2 hτ hop ex ey h hR hn
  · rw [← hop] at h; exact dC hτ h hR hn
 case call c =>
  obtain ⟨callee, args, ts⟩ := c
  cases callee with
  | value f =>
   simp only at h
   split at h
   · rename_i g e
     rcases h with h | h
     · obtain ⟨av, h1, _, h2⟩ := eV hR hop e h
       rw [oB] at h1
       obtain ⟨S', hK, hS'⟩ := yA (w0 := w0) (G := G) (Im0 := Im0) h1
       exact h2 next Q fun v w' Im' hR' hv => hn S' _ _ hK ⟨_, _, hS' hR' hv⟩
     · rcases h with h | h | h
       · exact oZ hR hop e h hn
       · exact qel hR hop e h hn
       · rw [forceLM_eq] at h
         exact qba hR hop e h hn
   · exact h.elim
  | invoke r m =>
   have h' : pval P τ (ev S) S.blk (.call { callee := .invoke r m, args := args, argTypes := ts }) fun v => force v fun v => S.put o.dst v K := h
   rw [← hop] at h'; exact dC hτ h' hR hn
  | builtin b =>
   by_cases hb : b = .append
   · subst hb
     simp only at h
     split at h
     · rename_i x y T T' e1 e2
       cases hTT : Nat.beq T T' with
       | false =>
        simp only [hTT] at h
        have e1' : args = #[x, y] := by cases args; simpa using e1
        have e2' : ts = #[T, T'] := by cases ts; simpa using e2
        subst e1' e2'
        split at h
        · rename_i s e
          exact qf6 hτ hop e h hR hn
        · exact h.elim
       | true =>
        simp only [hTT] at h
        have hT : T = T' := Nat.eq_of_beq_eq_true hTT
        subst hT
        have e1' : args = #[x, y] := by cases args; simpa using e1
        have e2' : ts = #[T, T] := by cases ts; simpa using e2
        subst e1' e2'
        split at h
        · rename_i id2 e
          split at h
          · exact qf5 hτ hop e h hR hn
          · exact qa8 hτ hop (by rw [e]; exact h) hR hn
        · exact qa8 hτ hop h hR hn
     · exact h.elim
   · have h' : pval P τ (ev S) S.blk (.call { callee := .builtin b, args := args, argTypes := ts }) fun v => force v fun v => S.put o.dst v K := by
      cases b <;> first | exact h | exact absurd rfl hb
     rw [← hop] at h'; exact dC hτ h' hR hn
 all_goals (rw [← hop] at h; exact dC hτ h hR hn)
/-! ### a list of operations -/
theorem pT {t : Nat} {b : Bool} {c : Bool} (hR : Rel w0 G Im0 S ρ Im a w) (ht : S.tm t = .dat (.bool c)) (hc : c = b) : Rel w0 G Im0 (S.setT t (.dat (.bool b))) ρ Im a w := by
 obtain ⟨n, tm, blk⟩ := S
 refine ⟨hR.defers, hR.size, fun s => ?_, hR.env, hR.ext⟩
 simp only [AState.setT]
 by_cases e : s = t
 · subst e; rw [updT_same]
   have := hR.tm s
   rw [ht, hc] at this
   exact this
 · rw [jD _ e]; exact hR.tm s
theorem cN {ops : Array Oper} {o : Oper} {g t : Nat} {want c : Bool} (hg : o.guard = some (g, want)) (ht : (ops[g]?).bind (·.dst) = some t) (hR : Rel w0 G Im0 S ρ Im a w) (hs : S.tm t = .dat (.bool c)) :
 Region.wanted o (yielded ops a.tmps) = (c == want) := by
 have h1 := hR.tm t
 rw [hs] at h1
 have h2 := mF h1
 have h3 : yielded ops a.tmps g = some c := by
  unfold yielded
  rw [ht]
  simp only [Array.getD_eq_getD_getElem?] at h2
  cases h4 : a.tmps[t]? with
  | none => simp [h4, undef] at h2
  | some v => simp [h4] at h2; subst h2; simp [h4]
 unfold Region.wanted
 rw [hg]
 simp only [h3]
 cases c <;> cases want <;> rfl
theorem bI : AVR ρ w.heap Im (.tup []) undef := .tup [] #[] (fun _ => undef) rfl (by simp) (by simp)
theorem aN {ops : Array Oper} {o : Oper} {g t : Nat} {want : Bool} (hg : o.guard = some (g, want)) (ht : (ops[g]?).bind (·.dst) = some t) (hR : Rel w0 G Im0 S ρ Im a w) (hs : S.tm t = .tup []) :
 Region.wanted o (yielded ops a.tmps) = false := by
 have h1 := hR.tm t
 rw [hs] at h1
 have h3 : yielded ops a.tmps g = none := by
  unfold yielded
  rw [ht]
  simp only [Array.getD_eq_getD_getElem?] at h1
  cases h4 : a.tmps[t]? with
  | none => simp [h4]
  | some v =>
   simp only [h4, Option.getD_some] at h1
   cases h1
   simp [h4]
 unfold Region.wanted
 rw [hg]
 simp only [h3]
 cases want <;> rfl
theorem pM [hT : Nonempty (TabH w0.heap Im0)] (hτ : f5 P τ) {ops : Array Oper} {Q : Exit → Act → World → Prop} {o : Oper} {rest : List Oper} {K : AState → Prop} {K' : Act → World → Prop} (h : d3 P τ ops (o :: rest) S K)
 (hR : Rel w0 G Im0 S ρ Im a w) (hn : ∀ S' a' w', d3 P τ ops rest S' K → f4 w0 G Im0 S' a' w' → K' a' w') :
 if Region.wanted o (yielded ops a.tmps) then o.wp P a w K' Q else K' (a.put o.dst undef) w := by
 simp only [d3] at h
 cases hg : o.guard with
 | none =>
  simp only [hg] at h
  have hw : Region.wanted o (yielded ops a.tmps) = true := by simp [Region.wanted, hg]
  rw [if_pos hw]
  exact wS hτ h hR hn
 | some gw =>
  obtain ⟨g, want⟩ := gw
  simp only [hg] at h
  cases ht : (ops[g]?).bind (·.dst) with
  | none => simp [ht] at h
  | some t =>
   simp only [ht] at h
   split at h
   · rename_i c hc
     have hw := cN hg ht hR hc
     have run : ∀ b, c = b → step P τ o (S.setT t (.dat (.bool b))) (fun S => d3 P τ ops rest S K) → o.wp P a w K' Q := fun b hb hs =>
      wS hτ hs (pT hR hc hb) hn
     have skip : ∀ b, c = b → (S.setT t (.dat (.bool b))).put o.dst (.tup []) (fun S => d3 P τ ops rest S K) → K' (a.put o.dst undef) w := fun b hb hs => by
      obtain ⟨S', hS, hS'⟩ := yA (w0 := w0) (G := G) (Im0 := Im0) hs
      exact hn S' _ _ hS ⟨_, _, hS' (pT hR hc hb) bI⟩
     rw [hw]
     cases want with
     | true => cases c with
      | true => rw [if_pos (by decide)]; exact run true rfl (h.1 rfl)
      | false => rw [if_neg (by decide)]; exact skip false rfl (h.2 rfl)
     | false => cases c with
      | true => rw [if_neg (by decide)]; exact skip true rfl (h.2 rfl)
      | false => rw [if_pos (by decide)]; exact run false rfl (h.1 rfl)
   · rename_i hc
     have hw := aN hg ht hR hc
     rw [hw, if_neg (by decide)]
     obtain ⟨S', hS, hS'⟩ := yA (w0 := w0) (G := G) (Im0 := Im0) h
     exact hn S' _ _ hS ⟨_, _, hS' hR bI⟩
   · exact h.elim
theorem yQ [hT : Nonempty (TabH w0.heap Im0)] (hτ : f5 P τ) {ops : Array Oper} {Q : Exit → Act → World → Prop} : ∀ (l : List Oper) (S : AState) (K : AState → Prop) (a : Act) (w : World), d3 P τ ops l S K → f4 w0 G Im0 S a w →
 (∀ S' a' w', K S' → f4 w0 G Im0 S' a' w' → Q .normal a' w') → wpList P ops Q l a w
 | [], S, K, a, w, h, hR, hn => hn S a w h hR
 | o :: rest, S, K, a, w, h, ⟨ρ, Im, hR⟩, hn => by
  have ih := fun S a w h hR => yQ hτ (ops := ops) (Q := Q) rest S K a w h hR hn
  exact wpList_step fun K' hK' => pM hτ h hR fun S' a' w' hS hR' => hK' _ _ (ih S' a' w' hS hR')
end
section
variable {P : Program} {τ : Tys} {Im Im' : Nat → Nat → Prop} {ρ ρ' ρ2 : Rho} {h h' : Array Obj} {w w' : World}
variable {w0 : World} {G : GP} {Im0 : Nat → Nat → Prop} {S : AState} {a : Act} {n : Nat} {tm : Nat → AV} {blk : Nat → Option Blk}
variable [hT : Nonempty (TabH w0.heap Im0)]
theorem qbi (i : Nat) (x y : Option Blk) : updB (updB blk i x) i y = updB blk i y := by
 funext j
 by_cases e : j = i
 · subst e; rw [updB_same, updB_same]
 · rw [p6 _ e, p6 _ e, p6 _ e]
theorem RepT.flatD {d : Dat} {v : Value} {F : Nat → Prop} (hf : d.flat = true) (hr : RepT h d v F) : RepD h Im d v := by
 cases hr with
 | int k n => exact .int k n
 | bool b => exact .bool b
 | str s => exact .str s
 | nil => cases hf
 | seq => cases hf
theorem RepT.one {d : Dat} {v : Value} {F : Nat → Prop} (hr : RepT h d v F) : v.oneCell' = true := by cases hr <;> rfl
def SubOk (B : Blk) (κ' : K) (l : List κ'.T) : Prop := (∃ T, B = .row T κ' l false ∧ κ'.flatS = true) ∨ ∃ T, B = .tree T κ' l
theorem SubOk.pin {B : Blk} {κ' : K} {l : List κ'.T} (h : SubOk B κ' l) : B.pinned = 0 := by
 rcases h with ⟨T, rfl, _⟩ | ⟨T, rfl⟩ <;> rfl
theorem qbo {Im' : Nat → Nat → Prop} {ρ' : Rho} {B1 : Blk} {κ'' : K} {l1 : List κ''.T} {c : Value} {F : Nat → Prop} (hB1 : SubOk B1 κ'' l1) (hB : BlkR ρ' h' Im' 0 B1)
 (hv : (ρ' 0 = none ∧ c = .slice none 0 0) ∨ ∃ r, ρ' 0 = some r ∧ c = .slice (some ⟨r.b, 0, none⟩) r.len r.cap ∧ ∀ x, r.has x → F x) : RepT h' (.seq κ'' l1) c F := by
 rcases hB1 with ⟨T, rfl, hf⟩ | ⟨T, rfl⟩
 · rcases hv with ⟨e, rfl⟩ | ⟨r, e, rfl, hF⟩
   · simp only [BlkR, e] at hB; exact .nil κ'' l1 hB _
   · simp only [BlkR, e] at hB
     obtain ⟨h1, h2, h3, cs', T', h4, h5, h6⟩ := hB
     rw [h1]
     refine .seq κ'' l1 r.b r.cap _ cs' (fun k j => cs'.getD (k * κ''.sz + j) undef) (fun _ _ _ => False) F omG h3 (hF _ (.inl rfl)) h4 h5 (fun _ _ _ _ _ h => h.elim) (fun _ _ _ _ _ _ _ _ _ h => h.elim) (fun k j hk hj => ?_) (fun k j hk hj => ?_)
     · obtain ⟨c, hc1, _⟩ := h6 k j hk hj
       simp [hc1]
     · obtain ⟨c, hc1, hc2⟩ := h6 k j hk hj
       simp only [Array.getD_eq_getD_getElem?, hc1, Option.getD_some]
       exact hc2.toT (K.flat_cell (K.flatS_flat hf) l1 k j)
 · rcases hv with ⟨e, rfl⟩ | ⟨r, e, rfl, hF⟩
   · simp only [BlkR, e] at hB; exact .nil κ'' l1 hB _
   · simp only [BlkR, e] at hB
     obtain ⟨h1, h2, h3, cs', Fk, T', h4, h5, h7, h8, h6⟩ := hB
     rw [h1]
     refine .seq κ'' l1 r.b r.cap T' cs' (fun k j => cs'.getD (k * κ''.sz + j) undef) Fk F omG h3 (hF _ (.inl rfl)) h4 h5 (fun k j x hk hj hx => ⟨hF x (.inr (h7 k j x hk hj hx).1), (h7 k j x hk hj hx).2⟩) h8 (fun k j hk hj => ?_) (fun k j hk hj => ?_)
     · obtain ⟨c, hc1, _⟩ := h6 k j hk hj
       simp [hc1]
     · obtain ⟨c, hc1, hc2⟩ := h6 k j hk hj
       simp only [Array.getD_eq_getD_getElem?, hc1, Option.getD_some]
       exact hc2
theorem sub_env {B0 : Blk} {κ' : K} {l0 : List κ'.T} {c : Value} {F : Nat → Prop} (hB0 : SubOk B0 κ' l0) (hr : RepT h (.seq κ' l0) c F) (hlt : ∀ b o, Im b o → b < h.size) (hF : ∀ x o, F x → ¬ Im x o) (hL : ∀ x, F x → x < h.size) :
 ∃ ρ1 : Rho, AVR ρ1 h Im (.row 0) c ∧ Env (fun j => [B0][j]?) ρ1 Im h ∧ ((ρ1 0 = none ∧ c = .slice none 0 0) ∨ ∃ r, ρ1 0 = some r ∧ c = .slice (some ⟨r.b, 0, none⟩) r.len r.cap ∧ ∀ x, r.has x → F x) := by
 cases hr with
 | nil _ _ hl =>
  refine ⟨fun _ => none, .rowN 0 rfl, ⟨fun i b hi => ?_, fun i j r s x _ _ hr => (by cases hr), fun i r _ hr => (by cases hr), fun i r x _ hr => (by cases hr), fun i r x o _ hr => (by cases hr), hlt, fun i b r o _ hr => (by cases hr)⟩, .inl ⟨rfl, rfl⟩⟩
  match i with
  | 0 => simp at hi; subst hi; rcases hB0 with ⟨T, rfl, _⟩ | ⟨T, rfl⟩ <;> exact hl
  | i + 1 => simp at hi
 | seq _ _ b cap T cs cf Fk _ hcap hmax hb hh hsz hsub hdis hc hr =>
  refine ⟨fun _ => some ⟨b, cap, l0.length, fun x => ∃ k j, k < l0.length ∧ j < κ'.sz ∧ Fk k j x⟩, .row 0 ⟨b, cap, l0.length, _⟩ rfl, ⟨fun i b' hi => ?_, fun i j r s x hi hj _ _ _ _ => ?_, fun i r _ hr => (by cases hr; rintro ⟨k, j, h1, h2, h3⟩; exact (hsub k j _ h1 h2 h3).2 rfl), fun i r x _ hr hx => (by cases hr; obtain ⟨k, j, h1, h2, h3⟩ := hx; exact hL x (hsub k j _ h1 h2 h3).1),
   fun i r x o _ hr hx => (by cases hr; obtain ⟨k, j, h1, h2, h3⟩ := hx; exact hF x o (hsub k j _ h1 h2 h3).1), hlt, fun i b' r o hi hr => ?_⟩,
   .inr ⟨_, rfl, rfl, fun x hx => hx.elim (fun e => by subst e; exact hb) (fun ⟨k, j, h1, h2, h3⟩ => (hsub k j _ h1 h2 h3).1)⟩⟩
  · match i with
    | 0 =>
     simp at hi; subst hi
     rcases hB0 with ⟨T1, rfl, hf⟩ | ⟨T1, rfl⟩
     · exact ⟨rfl, hcap, hmax, cs, T, by rw [tyB_S hf]; exact hh, hsz, fun k j hk hj => ⟨_, hc k j hk hj, (hr k j hk hj).flatD (K.flat_cell (K.flatS_flat hf) l0 k j)⟩⟩
     · exact ⟨rfl, hcap, hmax, cs, Fk, T, hh, hsz, fun k j x hk hj hx => ⟨⟨k, j, hk, hj, hx⟩, (hsub k j x hk hj hx).2⟩, hdis, fun k j hk hj => ⟨_, hc k j hk hj, hr k j hk hj⟩⟩
    | i + 1 => simp at hi
  · match i, j with
    | 0, 0 => rfl
    | 0, j + 1 => simp at hj
    | i + 1, _ => simp at hi
  · match i with
    | 0 =>
     simp at hi; subst hi; cases hr
     rw [hB0.pin]
     exact ⟨fun h1 => absurd h1 (hF b o hb), fun h1 => by omega⟩
    | i + 1 => simp at hi
theorem qc0 {κ : K} {l : List κ.T} {k j : Nat} {B' : List Blk} {res : AV} {Q : List κ.T → Prop} (h : cJ κ l k j B' res Q) :
 ∃ (B1 : Blk) (κ'' : K) (l1 : List κ''.T) (x : κ.T), B' = [B1] ∧ SubOk B1 κ'' l1 ∧ res.flat = true ∧ κ.putS (l.getD k κ.dflt) j κ'' l1 = some x ∧ Q (l.set k x) := by
 unfold cJ at h
 split at h
 · rename_i T κ'' l1
   split at h
   case h_2 => exact h.elim
   rename_i hf
   rw [Bool.and_eq_true] at hf
   split at h
   case h_2 => exact h.elim
   rename_i x hp
   exact ⟨_, κ'', l1, x, rfl, .inl ⟨T, rfl, hf.1⟩, hf.2, hp, h _ rfl⟩
 · rename_i T κ'' l1
   split at h
   case h_2 => exact h.elim
   rename_i hf
   split at h
   case h_2 => exact h.elim
   rename_i x hp
   exact ⟨_, κ'', l1, x, rfl, .inr ⟨T, rfl⟩, hf, hp, h _ rfl⟩
 · exact h.elim
theorem nW (hτ : f5 P τ) {o1 o2 o3 : Oper} {K : AState → Prop} (h : aP P τ S o1 o2 o3 K) (hR : Rel w0 G Im0 S ρ Im a w) {next : Act → World → Prop} {Q : Exit → Act → World → Prop}
 (hn : ∀ S' a' w', K S' → f4 w0 G Im0 S' a' w' → next a' w') :
 (o1.guard = none ∧ o2.guard = none ∧ o3.guard = none) ∧ o1.wp P a w (fun a w => o2.wp P a w (fun a w => o3.wp P a w next Q) Q) Q := by
 unfold aP at h
 split at h
 case h_2 => exact h.elim
 rename_i g1 g2 g3
 refine ⟨⟨g1, g2, g3⟩, ?_⟩
 split at h
 case h_2 => exact h.elim
 rename_i T p d1 y d2 g args ts e1 e2 e3 e4 e5
 split at h
 case h_2 => exact h.elim
 rename_i id k j sz a1 a2 i ep eargs eT
 obtain ⟨n, tm, blk⟩ := S
 simp only at h
 split at h
 case h_2 => exact h.elim
 rename_i E κ l E2 κd eB ed ea
 split at h
 case h_2 => exact h.elim
 rename_i hchk
 simp only [Bool.and_eq_true, Bool.not_eq_true'] at hchk
 obtain ⟨⟨⟨⟨⟨⟨⟨c1, c2⟩, c3⟩, c4⟩, c5⟩, c6⟩, c7⟩, c8⟩ := hchk
 have c1 := Nat.eq_of_beq_eq_true c1
 have c2 := Nat.eq_of_beq_eq_true c2
 have c3 := Nat.eq_of_beq_eq_true c3
 have c5 := blt_lt c5
 have c6 := blt_lt c6
 have c8 := blt_lt c8
 subst c1 c2 c3
 have hne : a1 ≠ a2 := fun e => by subst e; simp at c4
 obtain ⟨hk, h⟩ := h
 split at h
 case h_2 => exact h.elim
 rename_i κ' l0 ecell
 rw [forceC_eq] at h
 split at h
 case h_2 => exact h.elim
 rename_i hvy
 have h : ∃ B0 R, SubOk B0 κ' l0 ∧ CallsG P g [.row 0, ev ⟨n, tm, blk⟩ y] [B0] 1 R ∧ ∀ res B', R res B' →
  cJ κ l k j B' res fun l' => AState.put ⟨n, m5 (m5 tm a1 .cell) a2 (ev ⟨n, tm, blk⟩ y), updB blk id (some (.tree E κ l'))⟩ o3.dst res K := by
  split at h
  · rename_i hflat
    obtain ⟨R, hX, hres⟩ := h
    exact ⟨_, R, .inl ⟨E2, rfl, hflat⟩, hX, hres⟩
  · obtain ⟨R, hX, hres⟩ := h
    exact ⟨_, R, .inr ⟨E2, rfl⟩, hX, hres⟩
 obtain ⟨B0, R, hB0, hX, hres⟩ := h
 obtain ⟨⟨fn, f1, f2, f3⟩, hcall⟩ := hX
 have hp := i6 hR p
 rw [ep] at hp
 generalize hpe : a.eval p = u at hp
 cases hp with
 | rptr _ _ _ _ r hr =>
 have hiN : blk id ≠ none := by rw [eB]; exact fun h => by cases h
 have hbl := hR.env.bl id _ eB
 simp only [BlkR, hr] at hbl
 obtain ⟨b1, b2, b3, cs, Fk, T0, hh, hcsz, hF, hD, hcc⟩ := hbl
 obtain ⟨c, hc1, hc2⟩ := hcc k j hk c8
 have ecell' : y4 κ l k j = .seq κ' l0 := by unfold y4; rw [List.getD_eq_getElem?_getD, ecell]; rfl
 rw [ecell'] at hc2
 have hrun : (Instr.loadAt T (.pointer (some ⟨r.b, k * κ.sz + j, none⟩))).run P w = .ok c w := by
  simp only [Instr.loadAt, Instr.sureAddr, pure_bind]
  have run := jI (hτ T i eT) w r.b (k * κ.sz + j) (fun _ => c) (by
   simp only [ea]; intro m hm
   have : m = 0 := by omega
   subst this
   simp [hcell, hh, hc1])
  simp only [ea] at run
  exact run
 unfold Oper.wp
 have r1 : (execOp a.eval o1).run P w = .ok (.value c) w := by simp [execOp, e1, hpe, hrun]
 rw [r1]
 simp only [Oper.upon, e2]
 have hyv : (a.put (some a1) c).eval y = a.eval y := Act.eval_put fun d hd hyd => by
  cases hd; subst hyd; simp [notTmp] at c7
 have r2 : (execOp (a.put (some a1) c).eval o2).run P w = .ok (.value (a.eval y)) w := by simp [execOp, e3, hyv]
 rw [r2]
 simp only [e4]
 have hsz : a.tmps.size = n := hR.size
 have v1 : ((a.put (some a1) c).put (some a2) (a.eval y)).eval (.tmp a1) = c := by
  show ((a.put (some a1) c).put (some a2) (a.eval y)).tmps.getD a1 undef = c
  simp only [Act.put, Array.getD_eq_getD_getElem?]
  rw [Array.getElem?_setIfInBounds_ne (fun e => hne e.symm), Array.getElem?_setIfInBounds_self_of_lt omG]
  rfl
 have v2 : ((a.put (some a1) c).put (some a2) (a.eval y)).eval (.tmp a2) = a.eval y := by
  show ((a.put (some a1) c).put (some a2) (a.eval y)).tmps.getD a2 undef = a.eval y
  simp only [Act.put, Array.getD_eq_getD_getElem?]
  have ha2 : a2 < (a.tmps.setIfInBounds a1 c).size := by rw [Array.size_setIfInBounds]; exact hsz ▸ c6
  rw [Array.getElem?_setIfInBounds_self_of_lt ha2]
  rfl
 have eargs' : args = #[.tmp a1, .tmp a2] := by cases args; simpa using eargs
 subst eargs'
 rw [kI (f := .func g) e5 rfl f1 f2 f3]
 try simp only
 have hFk : ∀ x, Fk k j x → r.fp x ∧ x ≠ r.b := fun x hx => hF k j x hk c8 hx
 obtain ⟨ρ1, hav, hE1, hρ1⟩ := sub_env (Im := Im) hB0 hc2 hR.env.imlt (fun x o hx => hR.env.fpIm id r x o hiN hr (hFk x hx).1) (fun x hx => hR.env.fpLt id r x hiN hr (hFk x hx).1)
 have hy := i6 hR y
 have hGF : ∀ x, (GP.of 1 ρ1) x → Fk k j x := by
  rintro x ⟨m, s, hm, hs, hx⟩
  have : m = 0 := by omega
  subst this
  rcases hρ1 with ⟨e, _⟩ | ⟨s', e, _, q⟩
  · rw [e] at hs; cases hs
  · rw [e] at hs; cases hs; exact q x hx
 refine (hcall w Im ρ1 _ (by simp) (fun m x hx => ?_) hE1 hR.tab).mono ?_
 · match m with
   | 0 => simp at hx; subst hx; simpa [v1] using hav
   | 1 => simp at hx; subst hx; simpa [v2] using hy.flat hvy
   | m + 2 => simp at hx
 rintro e w' ⟨v, res, B', ρ', Im', rfl, hRes, hv, E', hkeep, X'⟩
 simp only
 have hK := hres res B' hRes
 obtain ⟨B1, κ'', l1, x', rfl, hB1, hfl2, hput, hK⟩ := qc0 hK
 have henc := Vg.K.putS_enc hput
 have hno : ∀ m s z, updB blk id none m ≠ none → ρ m = some s → s.has z → ¬ (GP.of 1 ρ1) z := fun m s z hm hs hz hG => by
  have hmi : m ≠ id := fun e => by subst e; exact hm (updB_same _ _ _)
  rw [p6 _ hmi] at hm
  exact hmi (hR.env.inj m id s r z hm hiN hs hr hz (.inr (hFk z (hGF z hG)).1))
 have hR1 := (hR.drop (i := id)).afterG (S := ⟨n, tm, updB blk id none⟩) hno (fun z hz => hR.ext.own id r z hiN hr (.inr (hFk z (hGF z hz)).1)) X' E'.imlt
 have hfr : ∀ z, r.has z → ¬ Fk k j z → w'.heap[z]? = w.heap[z]? := fun z hz hnF => X'.frame z (hR.env.lt hiN hr hz) (fun hG => hnF (hGF z hG))
 have hImN : ∀ z o, r.has z → ¬ Im' z o := fun z o hz hI => by
  have old : ¬ Im z o := fun h1 => by
   rcases hz with rfl | hz
   · have := (hR.env.imOwn id _ r o eB hr).1 h1
     simp [Blk.pinned] at this
   · exact hR.env.fpIm id r z o hiN hr hz h1
  rcases X'.imNew z o hI with h1 | h1 | h1
  · exact old h1
  · obtain ⟨m, s, hm, hs, hx⟩ := h1
    have : m = 0 := by have h1 : m < 1 := hm; omega
    subst this
    have h0 := (hkeep 0 omG).2
    rcases hx with rfl | hx
    · have := (E'.imOwn 0 _ s o rfl (h0.trans hs)).1 hI
      rw [hB1.pin] at this; omega
    · exact E'.fpIm 0 s z o (by simp) (h0.trans hs) hx hI
  · have := hR.env.lt hiN hr hz; omega
 have hrbF : ¬ Fk k j r.b := fun h1 => (hFk _ h1).2 rfl
 have hjl : j + 1 ≤ κ.sz := c8
 have hBT : BlkR ρ w'.heap Im' id (.tree E κ (l.set k x')) := by
  simp only [BlkR, hr]
  refine ⟨by simpa using b1, b2, b3, cs, Fk, T0, by rw [hfr r.b (.inl rfl) hrbF]; exact hh, hcsz, fun k' j' z h1 h2 => hF k' j' z (by simpa using h1) h2, fun k1 j1 k2 j2 z q1 q2 q3 q4 => hD k1 j1 k2 j2 z (by simpa using q1) q2 (by simpa using q3) q4, fun k' j' hk' hj' => ?_⟩
  simp only [List.length_set] at hk'
  obtain ⟨c0, hq1, hq2⟩ := hcc k' j' hk' hj'
  by_cases ek : k' = k
  · subst ek
    have hg : (l.set k' x').getD k' κ.dflt = x' := by simp [List.getD_eq_getElem?_getD, hk]
    simp only [y4, hg, henc]
    rw [qN _ [Dat.seq κ'' l1] j 1 j' _ rfl (by rw [κ.enc_length]; exact hjl)]
    by_cases hin : j ≤ j' ∧ j' < j + 1
    · rw [if_pos hin]
      have ej : j' = j := by omega
      subst ej
      rw [hc1] at hq1; cases hq1
      refine ⟨c, hc1, ?_⟩
      simp only [Nat.sub_self, List.getD_cons_zero]
      exact qbo hB1 (E'.bl 0 _ rfl) (by rw [(hkeep 0 omG).2]; exact hρ1)
    · rw [if_neg hin]
      refine ⟨c0, hq1, hq2.mono fun z hz => hfr z (.inr (hF k' j' z hk' hj' hz).1) fun hz2 => ?_⟩
      have := (hD k' j' k' j z hk' hj' hk' c8 hz hz2).2
      omega
  · have hg : (l.set k x').getD k' κ.dflt = l.getD k' κ.dflt := by simp [List.getD_eq_getElem?_getD, List.getElem?_set_ne (fun e' => ek e'.symm)]
    simp only [y4, hg]
    exact ⟨c0, hq1, hq2.mono fun z hz => hfr z (.inr (hF k' j' z hk' hj' hz).1) fun hz2 => ek (hD k' j' k j z hk' hj' hk c8 hz hz2).1⟩
 have hR2 := hR1.ins (t := id) (b := .tree E κ (l.set k x')) (updB_same _ _ _) hBT (fun s o hs => by
  rw [hr] at hs; cases hs
  exact ⟨fun h1 => absurd h1 (hImN _ o (.inl rfl)), fun h1 => by simp [Blk.pinned] at h1⟩)
  (fun s hs => by
   rw [hr] at hs; cases hs
   exact ⟨hR.env.fpNe id r hiN hr, fun z hz => ⟨Nat.lt_of_lt_of_le (hR.env.fpLt id r z hiN hr hz) X'.grow, fun o => hImN z o (.inr hz)⟩⟩)
  (fun s m s' z hs hm hs' hz hz' => by
   rw [hr] at hs; cases hs
   have hmi : m ≠ id := fun e => by subst e; exact hm (updB_same _ _ _)
   rw [p6 _ hmi] at hm
   exact hmi (hR.env.inj m id s' r z hm hiN hs' hr hz hz'))
  (fun s z hs hz => by rw [hr] at hs; cases hs; exact hR.ext.own id r z hiN hr hz)
  (fun q hq => hR.ext.pin id q hq hiN)
 rw [qbi] at hR2
 have hR3 := (hR2.put c5 (AVR.cell c hc2.one)).put (t := a2) c6 (hy.flat hvy)
 obtain ⟨S2, hK2, hS2⟩ := yA (w0 := w0) (G := G) (Im0 := Im0) hK
 exact hn S2 _ _ hK2 ⟨_, _, hS2 hR3 (hv.flat hfl2)⟩
theorem zQ (hτ : f5 P τ) {ops : Array Oper} {Q : Exit → Act → World → Prop} : ∀ (l : List Oper) (S : AState) (K : AState → Prop) (a : Act) (w : World), s8 P τ ops l S K → f4 w0 G Im0 S a w →
 (∀ S' a' w', K S' → f4 w0 G Im0 S' a' w' → Q .normal a' w') → wpList P ops Q l a w
 | [], S, K, a, w, h, hR, hn => hn S a w h hR
 | [o], S, K, a, w, h, hR, hn => yQ hτ [o] S K a w h hR hn
 | [o, o'], S, K, a, w, h, hR, hn => yQ hτ [o, o'] S K a w h hR hn
 | o1 :: o2 :: o3 :: rest, S, K, a, w, h, ⟨ρ, Im, hR⟩, hn => by
  unfold s8 at h
  have ih := fun S a w h hR => zQ hτ (ops := ops) (Q := Q) rest S K a w h hR hn
  have ih2 := fun S a w h hR => zQ hτ (ops := ops) (Q := Q) (o2 :: o3 :: rest) S K a w h hR hn
  cases hm : bF τ S o1 with
  | false =>
   simp only [hm] at h
   exact wpList_step fun K' hK' => pM hτ h hR fun S' a' w' hS hR' => hK' _ _ (ih2 S' a' w' hS hR')
  | true =>
   simp only [hm] at h
   refine wpList_step fun K1 hK1 => ?_
   obtain ⟨⟨g1, g2, g3⟩, _⟩ := nW (next := fun _ _ => True) (Q := Q) hτ h hR (fun _ _ _ _ _ => trivial)
   have w1 : Region.wanted o1 (yielded ops a.tmps) = true := by simp [Region.wanted, g1]
   rw [if_pos w1]
   have := (nW (next := fun a w => wpList P ops Q rest a w) (Q := Q) hτ h hR (fun S' a' w' hS hR' => ih S' a' w' hS hR')).2
   refine Oper.wp_mono (fun a2 w2 h2 => hK1 a2 w2 (wpList_step fun K2 hK2 => ?_)) this
   rw [if_pos (by simp [Region.wanted, g2])]
   refine Oper.wp_mono (fun a3 w3 h3 => hK2 a3 w3 (wpList_step fun K3 hK3 => ?_)) h2
   rw [if_pos (by simp [Region.wanted, g3])]
   exact Oper.wp_mono (fun a4 w4 h4 => hK3 a4 w4 h4) h3
end
end Vg
