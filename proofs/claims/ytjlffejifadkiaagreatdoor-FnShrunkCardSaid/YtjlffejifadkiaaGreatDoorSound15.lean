/- Maps from names to numbers: made, looked up, written, held against nil. Condition: the table of types is the program's. -/
import Derived.Test.YtjlffejifadkiaaGreatDoorTree
namespace Vg
open Go Go.MapKept
section
variable {P : Program} {τ : Tys} {Im Im' : Nat → Nat → Prop} {ρ ρ' : Rho} {h h' : Array Obj} {w w' : World}
variable {w0 : World} {G : GP} {Im0 : Nat → Nat → Prop} {S : AState} {a : Act} {n : Nat} {tm : Nat → AV} {blk : Nat → Option Blk}
theorem mset_R {es : Array MapEntry} {l : List (ByteArray × Int)} {s : ByteArray} {m : Int} {clock : Nat} (hm : dF es l) :
 (mfind s l 0 = none → dF (es.push { key := .string s, val := .int .i64 m, born := clock }) (t8 l s m)) ∧
 ∀ j x, mfind s l 0 = some (j, x) → dF (es.modify j fun e => { e with key := .string s, val := .int .i64 m }) (t8 l s m) := by
 refine ⟨fun h0 => ?_, fun j x h0 => ?_⟩
 · unfold dF t8 at *
   rw [h0]
   simp only [Array.toList_push, List.map_append, hm, List.map_cons, List.map_nil]
 · unfold dF t8 at *
   rw [h0]
   simp only
   have hj := (tR h0).2.1
   apply List.ext_getElem?
   intro i
   have hi := congrArg (fun q => q[i]?) hm
   simp only [List.getElem?_map, Array.getElem?_toList] at hi
   rw [List.getElem?_map, List.getElem?_map, Array.getElem?_toList, Array.getElem?_modify, List.getElem?_set]
   by_cases e : j = i
   · subst e
     have hlt : j < l.length := by omega
     rw [if_pos rfl, if_pos rfl, if_pos hlt]
     rw [List.getElem?_eq_getElem hlt] at hi
     cases he : es[j]? with
     | none => rw [he] at hi; simp at hi
     | some y => rfl
   · rw [if_neg e, if_neg e]; exact hi
theorem qgn (hτ : g5 P τ) {o : Oper} {T : Nat} {m k x : Operand} {K : AState → Prop} (hop : o.op = .mapUpdate T m k x)
 (h : nU (τ T) S (ev S m) (ev S k) (ev S x) fun S => S.put o.dst .any K) (hR : Rel w0 G Im0 S ρ Im a w)
 {next : Act → World → Prop} {Q : Exit → Act → World → Prop} (hn : ∀ S' a' w', K S' → a5 w0 G Im0 S' a' w' → next a' w') : o.wp P a w next Q := by
 unfold nU at h
 cases hT : τ T with
 | none => simp [hT] at h
 | some i =>
  simp only [hT] at h
  obtain ⟨d, hdd, _, hdesc⟩ := (hτ T i hT).und
  cases hde : i.desc <;> simp only [hde] at h hdesc <;> try exact h.elim
  obtain ⟨kt, et, rfl, hkt, hz⟩ := hdesc
  split at h
  case h_2 => exact h.elim
  rename_i id s v em ek ex
  have hm := r6 hR m
  have hk := r6 hR k
  have hx := r6 hR x
  rw [em] at hm
  rw [ek] at hk
  rw [ex] at hx
  have hkv := qck hk
  have hxv : a.eval x = .int .i64 v := by
   generalize a.eval x = u at hx
   cases hx with | dat _ _ hd => cases hd; rfl
  split at h
  case h_2 => exact h.elim
  rename_i l z hB
  obtain ⟨hz0, h⟩ := h
  obtain ⟨n, tm, blk⟩ := S
  have hB' : blk id = some (.mp l z) := hB
  have hbl := hR.env.bl id _ hB
  generalize hv : a.eval m = mv at hm
  cases hm with
  | mpN _ hi => simp only [BlkR, hi] at hbl; rw [hbl.1] at hz0; cases hz0
  | mp _ r hi =>
   simp only [BlkR, hi] at hbl
   obtain ⟨_, es, clock, hh, hmr⟩ := hbl
   have hlt : r.b < w.heap.size := (Array.getElem?_eq_some_iff.1 hh).1
   obtain ⟨S', hK, hS'⟩ := rC (w0 := w0) (G := G) (Im0 := Im0) h
   have hset := mset_R (s := s) (m := v) (clock := clock) hmr
   have fin : ∀ o' : Obj, (∃ es' clock', o' = .map es' clock' ∧ dF es' (t8 l s v)) →
    Rel w0 G Im0 ⟨n, tm, updB blk id (some (.mp (t8 l s v) z))⟩ ρ Im a { w with heap := w.heap.setIfInBounds r.b o' } := by
    rintro o' ⟨es', clock', rfl, hm'⟩
    refine hR.write (w' := { w with heap := w.heap.setIfInBounds r.b (.map es' clock') }) (Im' := Im) hB' hi (fun q hq => (heap_set hh).2 q hq) (fun o hIo => ?_) (by simp) rfl rfl rfl (fun _ _ x => x) (fun _ _ x => .inl x) ?_ (fun o => ?_)
    · exact absurd ((hR.env.imOwn id _ r o hB hi).1 hIo) (by simp [Blk.pinned])
    · simp only [BlkR, hi]
      exact ⟨hz0, es', clock', (heap_set hh).1, hm'⟩
    · rw [hR.env.imOwn id _ r o hB hi]; rfl
   have run : ∃ o', (Instr.mapUpdate T (.map (some r.b)) (.string s) (.int .i64 v)).run P w = .ok () { w with heap := w.heap.setIfInBounds r.b o' } ∧ ∃ es' clock', o' = .map es' clock' ∧ dF es' (t8 l s v) := by
    have hf : (Instr.findKey kt (.string s) es.toList).run P w = .ok ((mfind s l 0).map fun x => (x.1, Value.int .i64 x.2)) w := run_findKey hkt (eT es.toList l 0 hmr)
    have hso : ∀ o', (setObj r.b o').run P w = .ok () { w with heap := w.heap.setIfInBounds r.b o' } := fun o' => run_setObj_map o' hh
    cases hfd : mfind s l 0 with
    | none =>
     rw [hfd] at hf
     refine ⟨.map (es.push { key := .string s, val := .int .i64 v, born := clock }) (clock + 1), ?_, _, _, rfl, hset.1 hfd⟩
     simp only [Instr.mapUpdate, Sem.run_bind, run_map hdd, Result.andThen_ok, run_getObj_map hh, run_checkKey hkt (d := .string) (k := .string s) trivial, hf, Option.map_none, hso]
    | some y =>
     rw [hfd] at hf
     refine ⟨.map (es.modify y.1 fun e => { e with key := .string s, val := .int .i64 v }) clock, ?_, _, _, rfl, hset.2 y.1 y.2 hfd⟩
     have hj := tR hfd
     have hks : ((es[y.1]?).map (·.key)).getD (Value.string s) = .string s := by
      have hi := congrArg (fun q => q[y.1]?) hmr
      simp only [List.getElem?_map, Array.getElem?_toList] at hi
      have h3 := hj.2.2
      rw [Nat.sub_zero] at h3
      cases hl : l[y.1]? with
      | none => rw [hl] at h3; cases h3
      | some q =>
       rw [hl] at h3 hi
       simp at h3 hi
       obtain ⟨e, he, h4, _⟩ := hi
       simp [he, h4, h3]
     simp only [Instr.mapUpdate, Sem.run_bind, run_map hdd, Result.andThen_ok, run_getObj_map hh, run_checkKey hkt (d := .string) (k := .string s) trivial, hf, Option.map_some, hks, run_keyThatStays (d := .string) (k := .string s) trivial, hso]
   obtain ⟨o', hrun, ho'⟩ := run
   have hrun' : (execOp a.eval o).run P w = .ok .skip { w with heap := w.heap.setIfInBounds r.b o' } := by
    simp only [execOp, hop, hv, hkv, hxv, Sem.run_bind, hrun, Result.andThen_ok, Sem.run_pure]
   unfold Oper.wp
   rw [hrun']
   exact hn S' _ _ hK ⟨_, _, hS' (fin o' ho') (.any _)⟩
theorem qgp {o : Oper} {T t : Nat} {K : AState → Prop} (hop : o.op = .makeMap T none) (hdst : o.dst = some t)
 (h : S.new t (.mp [] false) (.mp t) K) (hR : Rel w0 G Im0 S ρ Im a w) {next : Act → World → Prop} {Q : Exit → Act → World → Prop}
 (hn : ∀ S' a' w', K S' → a5 w0 G Im0 S' a' w' → next a' w') : o.wp P a w next Q := by
 obtain ⟨n, tm, blk, rfl, ht, hK⟩ := vD h
 unfold Oper.wp
 have hrun : (execOp a.eval o).run P w = .ok (.value (.map (some w.heap.size))) { w with heap := w.heap.push (.map #[] 0) } := by
  simp only [execOp, hop, Instr.makeMap, Option.map_none, Sem.run_bind, Result.andThen_ok, run_newObj, Sem.run_pure]
 rw [hrun]
 simp only [Oper.upon, hdst]
 refine hn _ _ _ hK ⟨_, _, hR.new (ro := some (.at w.heap.size 0 0)) ht (fun b hb => yI hb) (by simp) rfl rfl rfl (fun r hr => ?_) ?_ rfl ?_⟩
 · cases hr; exact ⟨Nat.le_refl _, fun _ h => h⟩
 · simp only [BlkR, updR_same]
   exact ⟨trivial, #[], 0, vN _ _, rfl⟩
 · exact .mp t (.at w.heap.size 0 0) (updR_same _ _ _)
theorem fX {T k e : Nat} (hd : P.underlying T = some (.map k e)) (b : Option Nat) : (Op.equal T (.map b) (.map none)).run P w = .ok b.isNone w := by
 unfold Op.equal
 obtain ⟨d, hd'⟩ : ∃ d, Op.maxDepth = d + 1 := ⟨9999, rfl⟩
 rw [hd']
 simp only [Op.equalIn, Sem.run_bind, run_map hd, Result.andThen_ok]
 cases b <;> rfl
theorem qgm (hτ : g5 P τ) {o : Oper} {op : BinOp} {T U id : Nat} {x y : Operand} {K : AState → Prop} (hop : o.op = .binOp op T x y U) (ex : ev S x = .mp id) (ey : ev S y = .nilm)
 (h : mU (τ T) op (S.blk id) fun v => S.put o.dst v K) (hR : Rel w0 G Im0 S ρ Im a w)
 {next : Act → World → Prop} {Q : Exit → Act → World → Prop} (hn : ∀ S' a' w', K S' → a5 w0 G Im0 S' a' w' → next a' w') : o.wp P a w next Q := by
 unfold mU at h
 cases hT : τ T with
 | none => simp [hT] at h
 | some i =>
  simp only [hT] at h
  obtain ⟨d, hdd, _, hdesc⟩ := (hτ T i hT).und
  cases hde : i.desc <;> simp only [hde] at h hdesc <;> try exact h.elim
  obtain ⟨kt, et, rfl, _, _⟩ := hdesc
  split at h
  case h_2 => exact h.elim
  rename_i l z hB
  have hx := r6 hR x
  have hy := r6 hR y
  rw [ex] at hx
  rw [ey] at hy
  have hbl := hR.env.bl id _ hB
  have hyv : a.eval y = .map none := by
   generalize a.eval y = u at hy
   cases hy; rfl
  obtain ⟨b, hxv, hb⟩ : ∃ b : Option Nat, a.eval x = .map b ∧ b.isNone = z := by
   generalize a.eval x = u at hx
   cases hx with
   | mp _ r hi => simp only [BlkR, hi] at hbl; exact ⟨_, rfl, hbl.1.symm⟩
   | mpN _ hi => simp only [BlkR, hi] at hbl; exact ⟨_, rfl, hbl.1.symm⟩
  split at h
  · obtain ⟨S', hK, hS'⟩ := rC (w0 := w0) (G := G) (Im0 := Im0) h
    have : (execOp a.eval o).run P w = .ok (.value (.bool z)) w := by
     rw [← hb]; simp [execOp, hop, hxv, hyv, eqGuard, binOp, fX hdd]
    unfold Oper.wp
    rw [this]
    exact hn S' _ _ hK ⟨_, _, hS' hR (v8 _ _)⟩
  · obtain ⟨S', hK, hS'⟩ := rC (w0 := w0) (G := G) (Im0 := Im0) h
    have : (execOp a.eval o).run P w = .ok (.value (.bool !z)) w := by
     rw [← hb]; simp [execOp, hop, hxv, hyv, eqGuard, binOp, fX hdd]
    unfold Oper.wp
    rw [this]
    exact hn S' _ _ hK ⟨_, _, hS' hR (v8 _ _)⟩
  · exact h.elim
end
end Vg
namespace Vg
open Go
section
variable {P : Program} {τ : Tys} {Im Im' : Nat → Nat → Prop} {ρ ρ' ρ2 : Rho} {h h' : Array Obj} {w w' : World}
variable {w0 : World} {G : GP} {Im0 : Nat → Nat → Prop} {S : AState} {a : Act} {n : Nat} {tm : Nat → AV} {blk : Nat → Option Blk}
theorem gX {T E : Nat} (hd : P.underlying T = some (.slice E)) (b : Option Addr) (n c : Nat) : (Op.equal T (.slice b n c) (.slice none 0 0)).run P w = .ok b.isNone w := by
 unfold Op.equal
 obtain ⟨d, hd'⟩ : ∃ d, Op.maxDepth = d + 1 := ⟨9999, rfl⟩
 rw [hd']
 simp only [Op.equalIn, Sem.run_bind, w7 hd, Result.andThen_ok]
 cases b <;> rfl
theorem rD [hT : Nonempty (TabH w0.heap Im0)] (hτ : g5 P τ) {o : Oper} {K : AState → Prop} (h : pval P τ (ev S) S.blk o.op fun v => force v fun v => S.put o.dst v K) (hR : Rel w0 G Im0 S ρ Im a w)
 {next : Act → World → Prop} {Q : Exit → Act → World → Prop} (hn : ∀ S' a' w', K S' → a5 w0 G Im0 S' a' w' → next a' w') : o.wp P a w next Q := by
 obtain ⟨av, h1, _, h2⟩ := uX hτ hR h
 rw [uC] at h1
 obtain ⟨S', hK, hS'⟩ := rC (w0 := w0) (G := G) (Im0 := Im0) h1
 exact h2 next Q fun v w' Im' hR' hv => hn S' _ _ hK ⟨_, _, hS' hR' hv⟩
theorem qh5 [hT : Nonempty (TabH w0.heap Im0)] (hτ : g5 P τ) {o : Oper} {T id : Nat} {x : Operand} {lo hi : Option Operand} {K : AState → Prop} (hop : o.op = .slice T x lo hi none) (hx : ev S x = .row id)
 (h : uS P τ S o.dst T x lo hi id K) (hR : Rel w0 G Im0 S ρ Im a w)
 {next : Act → World → Prop} {Q : Exit → Act → World → Prop} (hn : ∀ S' a' w', K S' → a5 w0 G Im0 S' a' w' → next a' w') : o.wp P a w next Q := by
 unfold uS at h
 split at h
 · rename_i s
   split at h
   rename_i n tm blk
   split at h
   · rename_i E κ l sh hB
     obtain ⟨Im', hR', hI, hv⟩ := hR.freeze hB
     have ht : tm s = .row id := hx
     rw [← hop] at h
     refine rD hτ (S := ⟨n, m6 tm s (.dat (.seq κ l)), updB blk id (some (.row E κ l true))⟩) h ⟨hR'.defers, hR'.size, fun t => ?_, hR'.env, hR'.ext⟩ hn
     show AVR _ _ _ (m6 tm s (.dat (.seq κ l)) t) _
     unfold m6
     split
     · rename_i e
       have e' := Nat.eq_of_beq_eq_true e
       subst e'
       have h1 := hR.tm t
       change AVR _ _ _ (tm t) _ at h1
       rw [ht] at h1
       exact .dat _ _ (hv _ h1)
     · exact hR'.tm t
   · exact h.elim
 · exact h.elim
theorem vS : ∀ (l : List Nat) (S : AState) (Im : Nat → Nat → Prop) (K : AState → Prop), rK l S K → Rel w0 G Im0 S ρ Im a w → ∃ S' Im', K S' ∧ Rel w0 G Im0 S' ρ Im' a w ∧ ∀ x, ev S' x = ev S x
 | [], S, Im, K, h, hR => ⟨S, Im, h, hR, fun _ => rfl⟩
 | i :: l, ⟨n, tm, blk⟩, Im, K, h, hR => by
  simp only [rK] at h
  split at h
  · rename_i T κ x sh hB
    obtain ⟨Im1, hR1, _, _⟩ := hR.freeze hB
    obtain ⟨S', Im', h1, h2, h3⟩ := vS l _ Im1 K h hR1
    exact ⟨S', Im', h1, h2, fun y => (h3 y).trans (by cases y <;> rfl)⟩
  · exact vS l _ Im K h hR
theorem qdy [hT : Nonempty (TabH w0.heap Im0)] (hR : Rel w0 G Im0 S ρ Im a w) {o : Oper} {f : Operand} {args : Array Operand} {ts : Array Nat} {g : Nat} {K : AState → Prop}
 (ho : o.op = .call { callee := .value f, args := args, argTypes := ts }) (hf : ev S f = .fn g [])
 (h : aP P τ S o.dst g ts.toList (args.toList.map (ev S)) K) {next : Act → World → Prop} {Q : Exit → Act → World → Prop}
 (hn : ∀ S' a' w', K S' → a5 w0 G Im0 S' a' w' → next a' w') : o.wp P a w next Q := by
 unfold aP at h
 rw [uK] at h
 obtain ⟨S', Im', h1, h2, h3⟩ := vS _ S Im _ h hR
 have e : args.toList.map (ev S) = args.toList.map (ev S') := List.map_congr_left fun x _ => (h3 x).symm
 rw [e] at h1
 exact qca h2 ho ((h3 f).trans hf) h1 hn
theorem yV [hT : Nonempty (TabH w0.heap Im0)] (hτ : g5 P τ) {o : Oper} {K : AState → Prop} (h : step P τ o S K) (hR : Rel w0 G Im0 S ρ Im a w)
 {next : Act → World → Prop} {Q : Exit → Act → World → Prop} (hn : ∀ S' a' w', K S' → a5 w0 G Im0 S' a' w' → next a' w') : o.wp P a w next Q := by
 unfold step at h
 cases hop : o.op <;> simp only [hop] at h
 case alloc T =>
  cases hd : o.dst with
  | none => simp [hd] at h
  | some t =>
   cases hT : τ T with
   | none => simp [hd, hT] at h
   | some i =>
    simp only [hd, hT, forceL_eq] at h
    cases ha : (i.zero.map yE).all AV.oneC with
    | false => simp only [ha] at h
    | true => simp only [ha] at h; exact qi5 hτ hop hd hT h hR hn
 case box T x =>
  cases hd : o.dst with
  | none => simp [hd] at h
  | some t =>
   cases hT : τ T with
   | none => simp [hd, hT] at h
   | some i =>
    cases hc : (ev S x).cells1 with
    | none => simp [hd, hT, hc] at h
    | some vs =>
     simp only [hd, hT, hc, forceL_eq] at h
     cases ha : vs.all AV.oneC with
     | false => simp only [ha] at h
     | true => simp only [ha] at h; exact box_ok hop hd hc h hR hn
 case buildSlice T len parts =>
  cases hd : o.dst with
  | none => simp [hd] at h
  | some t =>
   cases hT : τ T with
   | none => simp [hd, hT] at h
   | some i =>
    simp only [hd, hT] at h
    cases hde : i.desc <;> simp only [hde] at h <;> try exact h.elim
    rename_i E κ
    cases hE : τ E with
    | none => simp [hE] at h
    | some ie =>
     simp only [hE] at h
     cases h1 : Nat.beq ie.size κ.sz with
     | false => simp only [h1] at h
     | true =>
      cases h2 : Nat.beq parts.toList.length len with
      | false => simp only [h1, h2] at h
      | true =>
       cases h3 : Nat.ble (len * ie.size) 16777216 with
       | false => simp only [h1, h2, h3] at h
       | true =>
        simp only [h1, h2, h3] at h
        cases hf : κ.flat with
        | true => simp only [hf] at h; exact qdd hτ hop hd hT hde hE (Nat.eq_of_beq_eq_true h1) (Nat.eq_of_beq_eq_true h2) (Nat.le_of_ble_eq_true h3) h hR hn
        | false =>
         simp only [hf] at h
         rcases h with ⟨h⟩ | ⟨h⟩
         · exact qdd hτ hop hd hT hde hE (Nat.eq_of_beq_eq_true h1) (Nat.eq_of_beq_eq_true h2) (Nat.le_of_ble_eq_true h3) h hR hn
         · exact qis hτ hop hd hT hde hE (Nat.eq_of_beq_eq_true h1) (Nat.eq_of_beq_eq_true h2) (Nat.le_of_ble_eq_true h3) h hR hn
 case makeSlice T l c =>
  cases hd : o.dst with
  | none => simp [hd] at h
  | some t =>
   cases hT : τ T with
   | none => simp [hd, hT] at h
   | some i =>
    simp only [hd, hT] at h
    cases hde : i.desc <;> simp only [hde] at h <;> try exact h.elim
    rename_i E κ
    cases hE : τ E with
    | none => simp [hE] at h
    | some ie =>
     simp only [hE] at h
     cases h1 : Nat.beq ie.size κ.sz with
     | false => simp only [h1] at h
     | true =>
      cases h2 : κ.dec ie.zeroD with
      | none => simp only [h1, h2] at h
      | some z =>
       simp only [h1, h2] at h
       split at h
       · rename_i l' m' e1 e2
         obtain ⟨hb, h⟩ := h
         cases hf : κ.flat with
         | true =>
          simp only [hf] at h
          exact eZ hτ hop hd hT hde hE (Nat.eq_of_beq_eq_true h1) h2 e1 e2 hb h hR hn
         | false =>
          simp only [hf] at h
          rcases h with ⟨h⟩ | ⟨h⟩
          · exact eZ hτ hop hd hT hde hE (Nat.eq_of_beq_eq_true h1) h2 e1 e2 hb h hR hn
          · cases hz : (ie.zero.all Value.hollow && ie.zeroD.all Dat.hollow) with
            | false => simp only [hz] at h
            | true => simp only [hz] at h; exact qgo hτ hop hd hT hde hE (Nat.eq_of_beq_eq_true h1) h2 e1 e2 hb hz h hR hn
       · exact h.elim
 case slice T x lo hi mx =>
  cases mx with
  | some m =>
   cases lo with
   | some l0 => simp only at h; rw [← hop] at h; exact rD hτ h hR hn
   | none =>
    cases hi with
    | none => simp only at h; rw [← hop] at h; exact rD hτ h hR hn
    | some y =>
     simp only at h
     split at h
     · rename_i id e
       exact qfv hτ hop e h hR hn
     · rw [← hop] at h; exact rD hτ h hR hn
  | none =>
   simp only at h
   split at h
   · rename_i id e
     rcases h with ⟨h⟩ | ⟨h⟩
     · exact qfu hτ hop e h hR hn
     · exact qh5 hτ hop e h hR hn
   · rw [← hop] at h; exact rD hτ h hR hn
 case store T pa x => exact qiv hτ hop h hR hn
 case makeMap T r =>
  cases r with
  | some x => simp only at h; rw [← hop] at h; exact rD hτ h hR hn
  | none =>
   simp only at h
   cases hd : o.dst with
   | none => simp [hd] at h
   | some t =>
    cases hT : τ T with
    | none => simp [hd, hT] at h
    | some i =>
     simp only [hd, hT] at h
     cases hde : i.desc <;> simp only [hde] at h <;> try exact h.elim
     exact qgp hop hd h hR hn
 case mapUpdate T m k x => exact qgn hτ hop h hR hn
 case binOp op T x y U =>
  split at h
  · rename_i κ l ex ey
    cases hT : τ T with
    | none => simp [hT] at h
    | some i =>
     simp only [hT] at h
     obtain ⟨d, hdd, _, hdesc⟩ := (hτ T i hT).und
     cases hde : i.desc <;> simp only [hde] at h hdesc <;> try exact h.elim
     subst hdesc
     have hx := r6 hR x
     have hy := r6 hR y
     rw [ex] at hx
     rw [ey] at hy
     have hyv := cG hy
     obtain ⟨ad, cap, hxv, _, hrest⟩ := (gL hx).seq_view
     have hlen : ad.isNone = true → l.length = 0 := fun e => by
      cases ad with
      | none =>
       by_cases h0 : l.length = 0
       · exact h0
       · obtain ⟨_, _, _, e', _⟩ := hrest h0; cases e'
      | some _ => simp at e
     unfold anil at h
     split at h
     · obtain ⟨S', hK, hS'⟩ := rC (w0 := w0) (G := G) (Im0 := Im0) (h ad.isNone hlen)
       have : (execOp a.eval o).run P w = .ok (.value (.bool ad.isNone)) w := by
        simp [execOp, hop, hxv, hyv, eqGuard, binOp, gX hdd]
       unfold Oper.wp
       rw [this]
       exact hn S' _ _ hK ⟨_, _, hS' hR (v8 _ _)⟩
     · obtain ⟨S', hK, hS'⟩ := rC (w0 := w0) (G := G) (Im0 := Im0) (h (!ad.isNone) (fun e => hlen (by simpa using e)))
       have : (execOp a.eval o).run P w = .ok (.value (.bool !ad.isNone)) w := by
        simp [execOp, hop, hxv, hyv, eqGuard, binOp, gX hdd]
       unfold Oper.wp
       rw [this]
       exact hn S' _ _ hK ⟨_, _, hS' hR (v8 _ _)⟩
     · exact h.elim
  · rename_i id ex ey
    exact qgm hτ hop ex ey h hR hn
  · rw [← hop] at h; exact rD hτ h hR hn
 case call c =>
  obtain ⟨callee, args, ts⟩ := c
  cases callee with
  | value f =>
   simp only at h
   split at h
   · rename_i g e
     rcases h with h | h
     · obtain ⟨av, h1, _, h2⟩ := bY hR hop e h
       rw [uC] at h1
       obtain ⟨S', hK, hS'⟩ := rC (w0 := w0) (G := G) (Im0 := Im0) h1
       exact h2 next Q fun v w' Im' hR' hv => hn S' _ _ hK ⟨_, _, hS' hR' hv⟩
     · rcases h with h | h | h
       · exact qca hR hop e h hn
       · exact qh2 hR hop e h hn
       · rw [forceLM_eq] at h
         exact qdy hR hop e h hn
   · exact h.elim
  | invoke r m =>
   have h' : pval P τ (ev S) S.blk (.call { callee := .invoke r m, args := args, argTypes := ts }) fun v => force v fun v => S.put o.dst v K := h
   rw [← hop] at h'; exact rD hτ h' hR hn
  | builtin b =>
   by_cases hb : b = .append
   · subst hb
     simp only at h
     split at h
     · rename_i x y T T' e1 e2
       cases hTT : Nat.beq T T' with
       | false => simp [hTT] at h
       | true =>
        simp only [hTT] at h
        have hT : T = T' := Nat.eq_of_beq_eq_true hTT
        subst hT
        have e1' : args = #[x, y] := by cases args; simpa using e1
        have e2' : ts = #[T, T] := by cases ts; simpa using e2
        subst e1' e2'
        split at h
        · rename_i id2 e
          split at h
          · exact qjk hτ hop e h hR hn
          · exact qdw hτ hop (by rw [e]; exact h) hR hn
        · exact qdw hτ hop h hR hn
     · exact h.elim
   · have h' : pval P τ (ev S) S.blk (.call { callee := .builtin b, args := args, argTypes := ts }) fun v => force v fun v => S.put o.dst v K := by
      cases b <;> first | exact h | exact absurd rfl hb
     rw [← hop] at h'; exact rD hτ h' hR hn
 all_goals (rw [← hop] at h; exact rD hτ h hR hn)
/-! ### a list of operations -/
theorem sW {t : Nat} {b : Bool} {c : Bool} (hR : Rel w0 G Im0 S ρ Im a w) (ht : S.tm t = .dat (.bool c)) (hc : c = b) : Rel w0 G Im0 (S.setT t (.dat (.bool b))) ρ Im a w := by
 obtain ⟨n, tm, blk⟩ := S
 refine ⟨hR.defers, hR.size, fun s => ?_, hR.env, hR.ext⟩
 simp only [AState.setT]
 by_cases e : s = t
 · subst e; rw [updT_same]
   have := hR.tm s
   rw [ht, hc] at this
   exact this
 · rw [updT_ne _ e]; exact hR.tm s
theorem fP {ops : Array Oper} {o : Oper} {g t : Nat} {want c : Bool} (hg : o.guard = some (g, want)) (ht : (ops[g]?).bind (·.dst) = some t) (hR : Rel w0 G Im0 S ρ Im a w) (hs : S.tm t = .dat (.bool c)) :
 Region.wanted o (yielded ops a.tmps) = (c == want) := by
 have h1 := hR.tm t
 rw [hs] at h1
 have h2 := qH h1
 have h3 : yielded ops a.tmps g = some c := by
  unfold yielded
  rw [ht]
  simp only [Array.getD_eq_getD_getElem?] at h2
  cases h4 : a.tmps[t]? with
  | none => simp [h4, undef] at h2
  | some v => simp [h4] at h2; subst h2; simp [h4]
 unfold Region.wanted
 rw [hg]
 simp only [h3]
 cases c <;> cases want <;> rfl
theorem qJ : AVR ρ w.heap Im (.tup []) undef := .tup [] #[] (fun _ => undef) rfl (by simp) (by simp)
theorem eP {ops : Array Oper} {o : Oper} {g t : Nat} {want : Bool} (hg : o.guard = some (g, want)) (ht : (ops[g]?).bind (·.dst) = some t) (hR : Rel w0 G Im0 S ρ Im a w) (hs : S.tm t = .tup []) :
 Region.wanted o (yielded ops a.tmps) = false := by
 have h1 := hR.tm t
 rw [hs] at h1
 have h3 : yielded ops a.tmps g = none := by
  unfold yielded
  rw [ht]
  simp only [Array.getD_eq_getD_getElem?] at h1
  cases h4 : a.tmps[t]? with
  | none => simp [h4]
  | some v =>
   simp only [h4, Option.getD_some] at h1
   cases h1
   simp [h4]
 unfold Region.wanted
 rw [hg]
 simp only [h3]
 cases want <;> rfl
theorem nO [hT : Nonempty (TabH w0.heap Im0)] (hτ : g5 P τ) {ops : Array Oper} {Q : Exit → Act → World → Prop} {o : Oper} {rest : List Oper} {K : AState → Prop} {K' : Act → World → Prop} (h : k7 P τ ops (o :: rest) S K)
 (hR : Rel w0 G Im0 S ρ Im a w) (hn : ∀ S' a' w', k7 P τ ops rest S' K → a5 w0 G Im0 S' a' w' → K' a' w') :
 if Region.wanted o (yielded ops a.tmps) then o.wp P a w K' Q else K' (a.put o.dst undef) w := by
 simp only [k7] at h
 cases hg : o.guard with
 | none =>
  simp only [hg] at h
  have hw : Region.wanted o (yielded ops a.tmps) = true := by simp [Region.wanted, hg]
  rw [if_pos hw]
  exact yV hτ h hR hn
 | some gw =>
  obtain ⟨g, want⟩ := gw
  simp only [hg] at h
  cases ht : (ops[g]?).bind (·.dst) with
  | none => simp [ht] at h
  | some t =>
   simp only [ht] at h
   split at h
   · rename_i c hc
     have hw := fP hg ht hR hc
     have run : ∀ b, c = b → step P τ o (S.setT t (.dat (.bool b))) (fun S => k7 P τ ops rest S K) → o.wp P a w K' Q := fun b hb hs =>
      yV hτ hs (sW hR hc hb) hn
     have skip : ∀ b, c = b → (S.setT t (.dat (.bool b))).put o.dst (.tup []) (fun S => k7 P τ ops rest S K) → K' (a.put o.dst undef) w := fun b hb hs => by
      obtain ⟨S', hS, hS'⟩ := rC (w0 := w0) (G := G) (Im0 := Im0) hs
      exact hn S' _ _ hS ⟨_, _, hS' (sW hR hc hb) qJ⟩
     rw [hw]
     cases want with
     | true => cases c with
      | true => rw [if_pos (by decide)]; exact run true rfl (h.1 rfl)
      | false => rw [if_neg (by decide)]; exact skip false rfl (h.2 rfl)
     | false => cases c with
      | true => rw [if_neg (by decide)]; exact skip true rfl (h.2 rfl)
      | false => rw [if_pos (by decide)]; exact run false rfl (h.1 rfl)
   · rename_i hc
     have hw := eP hg ht hR hc
     rw [hw, if_neg (by decide)]
     obtain ⟨S', hS, hS'⟩ := rC (w0 := w0) (G := G) (Im0 := Im0) h
     exact hn S' _ _ hS ⟨_, _, hS' hR qJ⟩
   · exact h.elim
theorem cU [hT : Nonempty (TabH w0.heap Im0)] (hτ : g5 P τ) {ops : Array Oper} {Q : Exit → Act → World → Prop} : ∀ (l : List Oper) (S : AState) (K : AState → Prop) (a : Act) (w : World), k7 P τ ops l S K → a5 w0 G Im0 S a w →
 (∀ S' a' w', K S' → a5 w0 G Im0 S' a' w' → Q .normal a' w') → wpList P ops Q l a w
 | [], S, K, a, w, h, hR, hn => hn S a w h hR
 | o :: rest, S, K, a, w, h, ⟨ρ, Im, hR⟩, hn => by
  have ih := fun S a w h hR => cU hτ (ops := ops) (Q := Q) rest S K a w h hR hn
  exact wpList_step fun K' hK' => nO hτ h hR fun S' a' w' hS hR' => hK' _ _ (ih S' a' w' hS hR')
end
section
variable {P : Program} {τ : Tys} {Im Im' : Nat → Nat → Prop} {ρ ρ' ρ2 : Rho} {h h' : Array Obj} {w w' : World}
variable {w0 : World} {G : GP} {Im0 : Nat → Nat → Prop} {S : AState} {a : Act} {n : Nat} {tm : Nat → AV} {blk : Nat → Option Blk}
variable [hT : Nonempty (TabH w0.heap Im0)]
theorem RepT.one {d : Dat} {v : Value} {F : Nat → Prop} (hr : RepT h d v F) : v.oneCell' = true := by cases hr <;> rfl
def SubOk (B : Blk) (κ' : K) (l : List κ'.T) : Prop := (∃ T, B = .row T κ' l false ∧ κ'.flat = true) ∨ ∃ T, B = .tree T κ' l
theorem SubOk.pin {B : Blk} {κ' : K} {l : List κ'.T} (h : SubOk B κ' l) : B.pinned = 0 := by
 rcases h with ⟨T, rfl, _⟩ | ⟨T, rfl⟩ <;> rfl
theorem dZ (_hτ : g5 P τ) {o1 o2 o3 : Oper} {K : AState → Prop} (h : uR P τ S o1 o2 o3 K) (_hR : Rel w0 G Im0 S ρ Im a w) {next : Act → World → Prop} {Q : Exit → Act → World → Prop}
 (_hn : ∀ S' a' w', K S' → a5 w0 G Im0 S' a' w' → next a' w') :
 (o1.guard = none ∧ o2.guard = none ∧ o3.guard = none) ∧ o1.wp P a w (fun a w => o2.wp P a w (fun a w => o3.wp P a w next Q) Q) Q := by
 have _hT := hT
 unfold uR at h
 exact h.elim
theorem dU (hτ : g5 P τ) {ops : Array Oper} {Q : Exit → Act → World → Prop} : ∀ (l : List Oper) (S : AState) (K : AState → Prop) (a : Act) (w : World), nD P τ ops l S K → a5 w0 G Im0 S a w →
 (∀ S' a' w', K S' → a5 w0 G Im0 S' a' w' → Q .normal a' w') → wpList P ops Q l a w
 | [], S, K, a, w, h, hR, hn => hn S a w h hR
 | [o], S, K, a, w, h, hR, hn => cU hτ [o] S K a w h hR hn
 | [o, o'], S, K, a, w, h, hR, hn => cU hτ [o, o'] S K a w h hR hn
 | o1 :: o2 :: o3 :: rest, S, K, a, w, h, ⟨ρ, Im, hR⟩, hn => by
  unfold nD at h
  have ih := fun S a w h hR => dU hτ (ops := ops) (Q := Q) rest S K a w h hR hn
  have ih2 := fun S a w h hR => dU hτ (ops := ops) (Q := Q) (o2 :: o3 :: rest) S K a w h hR hn
  cases hm : pI τ S o1 with
  | false =>
   simp only [hm] at h
   exact wpList_step fun K' hK' => nO hτ h hR fun S' a' w' hS hR' => hK' _ _ (ih2 S' a' w' hS hR')
  | true =>
   simp only [hm] at h
   refine wpList_step fun K1 hK1 => ?_
   obtain ⟨⟨g1, g2, g3⟩, _⟩ := dZ (next := fun _ _ => True) (Q := Q) hτ h hR (fun _ _ _ _ _ => trivial)
   have w1 : Region.wanted o1 (yielded ops a.tmps) = true := by simp [Region.wanted, g1]
   rw [if_pos w1]
   have := (dZ (next := fun a w => wpList P ops Q rest a w) (Q := Q) hτ h hR (fun S' a' w' hS hR' => ih S' a' w' hS hR')).2
   refine Oper.wp_mono (fun a2 w2 h2 => hK1 a2 w2 (wpList_step fun K2 hK2 => ?_)) this
   rw [if_pos (by simp [Region.wanted, g2])]
   refine Oper.wp_mono (fun a3 w3 h3 => hK2 a3 w3 (wpList_step fun K3 hK3 => ?_)) h2
   rw [if_pos (by simp [Region.wanted, g3])]
   exact Oper.wp_mono (fun a4 w4 h4 => hK3 a4 w4 h4) h3
end
end Vg
