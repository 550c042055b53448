/- Maps from names to numbers: made, looked up, written, held against nil. Condition: the table of types is the program's. -/
import Derived.Test.YtfhkodimclmcdaaGreatDoorTree
import Derived.Laws.IdiomRangeMap
namespace Vg
open Go Go.MapKept
section
variable {P : Program} {τ : Tys} {Im Im' : Nat -> Nat -> Prop} {ρ ρ' : Rho} {h h' : Array Obj} {w w' : World}
variable {w0 : World} {G : GP} {Im0 : Nat -> Nat -> Prop} {S : AState} {a : Act} {n : Nat} {tm : Nat -> AV} {blk : Nat -> Option Blk}
theorem mset_R {es : Array MapEntry} {l : List (ByteArray × Int)} {s : ByteArray} {m : Int} {clock : Nat} (hm : MapR es l) :
 (mfind s l 0 = none -> MapR (es.push { key := .string s,val := .int .i64 m,born := clock }) (y8 l s m)) /\
 ∀ j x,mfind s l 0 = some (j,x) -> MapR (es.modify j fun e=>{ e with key := .string s,val := .int .i64 m }) (y8 l s m) := by
 refine ⟨fun h0=>?_,fun j x h0=>?_⟩
 . unfold MapR y8 at *
   rw [h0]
   simp only [Array.toList_push,List.map_append,hm,List.map_cons,List.map_nil]
 . unfold MapR y8 at *
   rw [h0]
   simp only
   have hj := (cW h0).2.1
   apply List.ext_getElem?
   intro i
   have hi := congrArg (fun q=>q[i]?) hm
   simp only [List.getElem?_map,Array.getElem?_toList] at hi
   rw [List.getElem?_map,List.getElem?_map,Array.getElem?_toList,Array.getElem?_modify,List.getElem?_set]
   by_cases e : j = i
   . subst e
     have hlt : j < l.length := by omega
     rw [if_pos rfl,if_pos rfl,if_pos hlt]
     rw [List.getElem?_eq_getElem hlt] at hi
     cases he : es[j]? with
     | none=>rw [he] at hi;simp at hi
     | some y=>rfl
   . rw [if_neg e,if_neg e];exact hi
theorem Stamps.push {es : Array MapEntry} {clock : Nat} {k v : Value} (h : Stamps es clock) : Stamps (es.push { key := k,val := v,born := clock }) (clock + 1) := fun e he=>by
 rw [Array.toList_push,List.mem_append] at he
 rcases he with he|he
 . exact Nat.lt_succ_of_lt (h e he)
 . rw [List.mem_singleton] at he;subst he;exact Nat.lt_succ_self _
theorem Stamps.modify {es : Array MapEntry} {clock j : Nat} {k v : Value} (h : Stamps es clock) : Stamps (es.modify j fun e=>{ e with key := k,val := v }) clock := fun e he=>by
 obtain ⟨i,hi⟩ := List.mem_iff_getElem?.1 he
 rw [Array.getElem?_toList,Array.getElem?_modify] at hi
 by_cases c : j = i
 . rw [if_pos c] at hi
   cases hq : es[i]? with
   | none=>rw [hq] at hi;cases hi
   | some y=>rw [hq] at hi;cases hi;exact h y (List.mem_of_getElem? (by rw [Array.getElem?_toList];exact hq))
 . rw [if_neg c] at hi
   exact h e (List.mem_of_getElem? (by rw [Array.getElem?_toList];exact hi))
theorem qk6 (hτ : d6 P τ) {o : Oper} {T : Nat} {m k x : Operand} {K : AState -> Prop} (hop : o.op = .mapUpdate T m k x)
 (h : xY (τ T) S (ev S m) (ev S k) (ev S x) fun S=>S.put o.dst .any K) (hR : Rel w0 G Im0 S ρ Im a w)
 {next : Act -> World -> Prop} {Q : Exit -> Act -> World -> Prop} (hn : ∀ S' a' w',K S' -> o5 w0 G Im0 S' a' w' -> next a' w') : o.wp P a w next Q := by
 unfold xY at h
 cases hT : τ T with
 | none=>simp [hT] at h
 | some i =>
  simp only [hT] at h
  obtain ⟨d,hdd,_,hdesc⟩ := (hτ T i hT).und
  cases hde : i.desc <;> simp only [hde] at h hdesc <;> try exact h.elim
  obtain ⟨kt,et,rfl,hkt,hz⟩ := hdesc
  split at h
  case h_2=>exact h.elim
  rename_i id s v em ek ex
  have hm := j7 hR m
  have hk := j7 hR k
  have hx := j7 hR x
  rw [em] at hm
  rw [ek] at hk
  rw [ex] at hx
  have hkv := qfx hk
  have hxv : a.eval x = .int .i64 v := by
   generalize a.eval x = u at hx
   cases hx with|dat _ _ hd=>cases hd;rfl
  split at h
  case h_2=>exact h.elim
  rename_i l z hB
  obtain ⟨hz0,h⟩ := h
  obtain ⟨n,tm,blk⟩ := S
  have hB' : blk id = some (.mp l z) := hB
  have hbl := hR.env.bl id _ hB
  generalize hv : a.eval m = mv at hm
  cases hm with
  | mpN _ hi=>simp only [BlkR,hi] at hbl;rw [hbl.1] at hz0;cases hz0
  | mp _ r hi =>
   simp only [BlkR,hi] at hbl
   obtain ⟨_,es,clock,hh,hmr,hst⟩ := hbl
   have hlt : r.b < w.heap.size := (Array.getElem?_eq_some_iff.1 hh).1
   obtain ⟨S',hK,hS'⟩ := zB (w0 := w0) (G := G) (Im0 := Im0) h
   have hset := mset_R (s := s) (m := v) (clock := clock) hmr
   have fin : ∀ o' : Obj,(∃ es' clock',o' = .map es' clock' /\ MapR es' (y8 l s v) /\ Stamps es' clock') ->
    Rel w0 G Im0 ⟨n,tm,updB blk id (some (.mp (y8 l s v) z))⟩ ρ Im a { w with heap := w.heap.setIfInBounds r.b o' } := by
    rintro o' ⟨es',clock',rfl,hm',hs'⟩
    refine hR.write (w' := { w with heap := w.heap.setIfInBounds r.b (.map es' clock') }) (Im' := Im) hB' hi (fun q hq=>(heap_set hh).2 q hq) (fun o hIo=>?_) (by simp) rfl rfl rfl (fun _ _ x=>x) (fun _ _ x => .inl x) ?_ (fun o=>?_)
    . exact absurd ((hR.env.imOwn id _ r o hB hi).1 hIo) (by simp [Blk.pinned])
    . simp only [BlkR,hi]
      exact ⟨hz0,es',clock',(heap_set hh).1,hm',hs'⟩
    . rw [hR.env.imOwn id _ r o hB hi];rfl
   have run : ∃ o',(Instr.mapUpdate T (.map (some r.b)) (.string s) (.int .i64 v)).run P w = .ok () { w with heap := w.heap.setIfInBounds r.b o' } /\ ∃ es' clock',o' = .map es' clock' /\ MapR es' (y8 l s v) /\ Stamps es' clock' := by
    have hf : (Instr.findKey kt (.string s) es.toList).run P w = .ok ((mfind s l 0).map fun x=>(x.1,Value.int .i64 x.2)) w := run_findKey hkt (nX es.toList l 0 hmr)
    have hso : ∀ o',(setObj r.b o').run P w = .ok () { w with heap := w.heap.setIfInBounds r.b o' } := fun o'=>run_setObj_map o' hh
    cases hfd : mfind s l 0 with
    | none =>
     rw [hfd] at hf
     refine ⟨.map (es.push { key := .string s,val := .int .i64 v,born := clock }) (clock + 1), ?_,_,_,rfl,hset.1 hfd,hst.push⟩
     simp only [Instr.mapUpdate,Sem.run_bind,run_map hdd,Result.andThen_ok,run_getObj_map hh,run_checkKey hkt (d := .string) (k := .string s) trivial,hf,Option.map_none,hso]
    | some y =>
     rw [hfd] at hf
     refine ⟨.map (es.modify y.1 fun e=>{ e with key := .string s,val := .int .i64 v }) clock, ?_,_,_,rfl,hset.2 y.1 y.2 hfd,hst.modify⟩
     have hj := cW hfd
     have hks : ((es[y.1]?).map (·.key)).getD (Value.string s) = .string s := by
      have hi := congrArg (fun q=>q[y.1]?) hmr
      simp only [List.getElem?_map,Array.getElem?_toList] at hi
      have h3 := hj.2.2
      rw [Nat.sub_zero] at h3
      cases hl : l[y.1]? with
      | none=>rw [hl] at h3;cases h3
      | some q =>
       rw [hl] at h3 hi
       simp at h3 hi
       obtain ⟨e,he,h4,_⟩ := hi
       simp [he,h4,h3]
     simp only [Instr.mapUpdate,Sem.run_bind,run_map hdd,Result.andThen_ok,run_getObj_map hh,run_checkKey hkt (d := .string) (k := .string s) trivial,hf,Option.map_some,hks,run_keyThatStays (d := .string) (k := .string s) trivial,hso]
   obtain ⟨o',hrun,ho'⟩ := run
   have hrun' : (execOp a.eval o).run P w = .ok .skip { w with heap := w.heap.setIfInBounds r.b o' } := by
    simp only [execOp,hop,hv,hkv,hxv,Sem.run_bind,hrun,Result.andThen_ok,Sem.run_pure]
   unfold Oper.wp
   rw [hrun']
   exact hn S' _ _ hK ⟨_,_,hS' (fin o' ho') (.any _)⟩
theorem qk8 {o : Oper} {T t : Nat} {K : AState -> Prop} (hop : o.op = .makeMap T none) (hdst : o.dst = some t)
 (h : S.new t (.mp [] false) (.mp t) K) (hR : Rel w0 G Im0 S ρ Im a w) {next : Act -> World -> Prop} {Q : Exit -> Act -> World -> Prop}
 (hn : ∀ S' a' w',K S' -> o5 w0 G Im0 S' a' w' -> next a' w') : o.wp P a w next Q := by
 obtain ⟨n,tm,blk,rfl,ht,hK⟩ := mD h
 unfold Oper.wp
 have hrun : (execOp a.eval o).run P w = .ok (.value (.map (some w.heap.size))) { w with heap := w.heap.push (.map #[] 0) } := by
  simp only [execOp,hop,Instr.makeMap,Option.map_none,Sem.run_bind,Result.andThen_ok,run_newObj,Sem.run_pure]
 rw [hrun]
 simp only [Oper.upon,hdst]
 refine hn _ _ _ hK ⟨_,_,hR.new (ro := some (.at w.heap.size 0 0)) ht (fun b hb=>lI hb) (by simp) rfl rfl rfl (fun r hr=>?_) ?_ rfl ?_⟩
 . cases hr;exact ⟨Nat.le_refl _,fun _ h=>h⟩
 . simp only [BlkR,updR_same]
   exact ⟨trivial,#[],0,sL _ _,rfl,fun e h=>(by simp at h)⟩
 . exact .mp t (.at w.heap.size 0 0) (updR_same _ _ _)
theorem qbl {T k e : Nat} (hd : P.underlying T = some (.map k e)) (b : Option Nat) : (Op.equal T (.map b) (.map none)).run P w = .ok b.isNone w := by
 unfold Op.equal
 obtain ⟨d,hd'⟩ : ∃ d,Op.maxDepth = d + 1 := ⟨9999,rfl⟩
 rw [hd']
 simp only [Op.equalIn,Sem.run_bind,run_map hd,Result.andThen_ok]
 cases b <;> rfl
theorem qk5 (hτ : d6 P τ) {o : Oper} {op : BinOp} {T U id : Nat} {x y : Operand} {K : AState -> Prop} (hop : o.op = .binOp op T x y U) (ex : ev S x = .mp id) (ey : ev S y = .nilm)
 (h : wY (τ T) op (S.blk id) fun v=>S.put o.dst v K) (hR : Rel w0 G Im0 S ρ Im a w)
 {next : Act -> World -> Prop} {Q : Exit -> Act -> World -> Prop} (hn : ∀ S' a' w',K S' -> o5 w0 G Im0 S' a' w' -> next a' w') : o.wp P a w next Q := by
 unfold wY at h
 cases hT : τ T with
 | none=>simp [hT] at h
 | some i =>
  simp only [hT] at h
  obtain ⟨d,hdd,_,hdesc⟩ := (hτ T i hT).und
  cases hde : i.desc <;> simp only [hde] at h hdesc <;> try exact h.elim
  obtain ⟨kt,et,rfl,_,_⟩ := hdesc
  split at h
  case h_2=>exact h.elim
  rename_i l z hB
  have hx := j7 hR x
  have hy := j7 hR y
  rw [ex] at hx
  rw [ey] at hy
  have hbl := hR.env.bl id _ hB
  have hyv : a.eval y = .map none := by
   generalize a.eval y = u at hy
   cases hy;rfl
  obtain ⟨b,hxv,hb⟩ : ∃ b : Option Nat,a.eval x = .map b /\ b.isNone = z := by
   generalize a.eval x = u at hx
   cases hx with
   | mp _ r hi=>simp only [BlkR,hi] at hbl;exact ⟨_,rfl,hbl.1.symm⟩
   | mpN _ hi=>simp only [BlkR,hi] at hbl;exact ⟨_,rfl,hbl.1.symm⟩
  split at h
  . obtain ⟨S',hK,hS'⟩ := zB (w0 := w0) (G := G) (Im0 := Im0) h
    have : (execOp a.eval o).run P w = .ok (.value (.bool z)) w := by
     rw [<- hb];simp [execOp,hop,hxv,hyv,eqGuard,binOp,qbl hdd]
    unfold Oper.wp
    rw [this]
    exact hn S' _ _ hK ⟨_,_,hS' hR (mk_bool _ _)⟩
  . obtain ⟨S',hK,hS'⟩ := zB (w0 := w0) (G := G) (Im0 := Im0) h
    have : (execOp a.eval o).run P w = .ok (.value (.bool !z)) w := by
     rw [<- hb];simp [execOp,hop,hxv,hyv,eqGuard,binOp,qbl hdd]
    unfold Oper.wp
    rw [this]
    exact hn S' _ _ hK ⟨_,_,hS' hR (mk_bool _ _)⟩
  . exact h.elim
end
section
variable {P : Program} {τ : Tys} {Im Im' : Nat -> Nat -> Prop} {ρ ρ' : Rho} {h h' : Array Obj} {w w' : World}
variable {w0 : World} {G : GP} {Im0 : Nat -> Nat -> Prop} {S : AState} {a : Act} {n : Nat} {tm : Nat -> AV} {blk : Nat -> Option Blk}
theorem Rel.enterP (hR : Rel w0 G Im0 ⟨n,tm,blk⟩ ρ Im a w) {t b0 : Nat} {fp : Nat -> Prop} {bk : Blk} (ht : t < n /\ t < 900000)
 (hb : Free w0 G blk ρ Im w b0) (hne : ¬ fp b0) (hfp : ∀ x,fp x -> Free w0 G blk ρ Im w x) (hp0 : bk.pinned = 0)
 (hB : BlkR (o8 ρ t (some ⟨b0,0,0,fp⟩)) w.heap Im t bk) :
 o5 w0 G Im0 ⟨n,z6 (wA tm t) t (.ptr t 0),updB (g7 blk t) t (some bk)⟩ (a.put (some t) (.pointer (some ⟨b0,0,none⟩))) w := by
 have h2 := hR.kill (ρ' := o8 ρ t (some ⟨b0,0,0,fp⟩)) (i := t) (fun j hj=>bD _ hj)
 have key : ∀ x,RI.has ⟨b0,0,0,fp⟩ x -> Free w0 G blk ρ Im w x := fun x hx=>hx.elim (fun e=>e ▸ hb) (hfp x)
 refine ⟨_,_,Rel.put (h2.ins (b := bk) (killB_same _ _) hB (fun r o hr=>?_) (fun r hr=>?_) (fun r j s x hr hj hs hx hy=>?_) (fun r x hr hx=>?_) (fun p hp=>by rw [G.lt t ht.2] at hp;cases hp)) ht.1 (.ptr t 0 ⟨b0,0,0,fp⟩ (updR_same _ _ _))⟩
 . rw [updR_same] at hr;cases hr
   exact ⟨fun h=>absurd h (hb.im o),fun h=>by rw [hp0] at h;exact absurd h (Nat.not_lt_zero _)⟩
 . rw [updR_same] at hr;cases hr
   exact ⟨hne,fun x hx=>⟨(hfp x hx).lt,(hfp x hx).im⟩⟩
 . rw [updR_same] at hr;cases hr
   have := qdg hj
   rw [bD _ this.2] at hs
   exact (key x hy).far j s this.1 hs hx
 . rw [updR_same] at hr;cases hr
   exact (key x hx).own
theorem qno {es : Array MapEntry} : (es.filter fun e => !(#[] : Array Nat).contains e.born).size = es.size := by
 rw [Array.filter_eq_self.2 (fun x _=>by simp)]
theorem MapR.size {es : Array MapEntry} {l : List (ByteArray × Int)} (hm : MapR es l) : es.size = l.length := by
 have := congrArg List.length hm
 simpa using this
theorem qkd (hτ : d6 P τ) {o : Oper} {T : Nat} {x : Operand} {K : AState -> Prop} (hop : o.op = .range T x)
 (h : tY (τ T) S o.dst (ev S x) K) (hR : Rel w0 G Im0 S ρ Im a w)
 {next : Act -> World -> Prop} {Q : Exit -> Act -> World -> Prop} (hn : ∀ S' a' w',K S' -> o5 w0 G Im0 S' a' w' -> next a' w') : o.wp P a w next Q := by
 unfold tY at h
 cases hd : o.dst with
 | none=>simp [hd] at h
 | some t =>
 cases hT : τ T with
 | none=>simp [hd,hT] at h
 | some i =>
  simp only [hd,hT] at h
  obtain ⟨d,hdd,_,hdesc⟩ := (hτ T i hT).und
  cases hde : i.desc <;> simp only [hde] at h hdesc <;> try exact h.elim
  obtain ⟨kt,et,rfl,hkt,hz⟩ := hdesc
  split at h
  case h_2=>exact h.elim
  rename_i id em
  split at h
  case h_2=>exact h.elim
  rename_i l z hB
  obtain ⟨n,tm,blk⟩ := S
  have hB' : blk id = some (.mp l z) := hB
  have hbl := hR.env.bl id _ hB
  have hm := j7 hR x
  rw [em] at hm
  obtain ⟨n',tm',blk',e0,ht,hK⟩ := mD h
  have e1 : AState.kill ⟨n,tm,blk⟩ id = ⟨n,wA tm id,g7 blk id⟩ := rfl
  rw [e1] at e0
  cases e0
  have hkill : Rel w0 G Im0 ⟨n,wA tm id,g7 blk id⟩ ρ Im a w := hR.kill (fun _ _=>rfl)
  generalize hv : a.eval x = mv at hm
  have fin : ∀ (o' : Obj) (fp : Nat -> Prop),(∀ x,fp x -> Free w0 G (g7 blk id) ρ Im w x) ->
   (BlkR (o8 ρ t (some ⟨w.heap.size,0,0,fp⟩)) (w.heap.push o') Im t (.it l l.length false)) ->
   o5 w0 G Im0 ⟨n,z6 (wA (wA tm id) t) t (.ptr t 0),updB (g7 (g7 blk id) t) t (some (.it l l.length false))⟩ (a.put (some t) (.pointer (some ⟨w.heap.size,0,none⟩))) { w with heap := w.heap.push o' } := by
   intro o' fp hfp hBk
   have hg : w.heap.size <= (w.heap.push o').size := by simp
   have h1 := hkill.after (w' := { w with heap := w.heap.push o' }) (Im2 := Im) (fun b hb=>lI hb) hg rfl rfl rfl (fun _ _ x=>x) (fun _ _ x => .inl x)
   refine h1.enterP (fp := fp) ht ⟨by simp,fun o hI=>?_,.inr hR.ext.grow,fun j s hj hs hx=>?_⟩ (fun hx=>?_) (fun x hx=>(hfp x hx).after hg) rfl hBk
   . exact Nat.lt_irrefl _ (hR.env.imlt _ _ hI)
   . exact Nat.lt_irrefl _ (hkill.env.lt hj hs hx)
   . exact Nat.lt_irrefl _ (hfp _ hx).lt
  have go : ∀ (o' : Obj) (fp : Nat -> Prop),(execOp a.eval o).run P w = .ok (.value (.pointer (some ⟨w.heap.size,0,none⟩))) { w with heap := w.heap.push o' } -> (∀ x,fp x -> Free w0 G (g7 blk id) ρ Im w x) ->
   (BlkR (o8 ρ t (some ⟨w.heap.size,0,0,fp⟩)) (w.heap.push o') Im t (.it l l.length false)) -> o.wp P a w next Q := by
   intro o' fp hrun hfp hBk
   unfold Oper.wp
   rw [hrun]
   simp only [Oper.upon,hd]
   exact hn _ _ _ hK (fin o' fp hfp hBk)
  cases hm with
  | mpN _ hi =>
   simp only [BlkR,hi] at hbl
   refine go (.mapIter none 0 #[] 0) (fun _=>False) ?_ (fun _ x=>x.elim) ⟨_,updR_same _ _ _,none,0,0,#[],sL _ _,fun _=>⟨by rw [hbl.2];rfl,rfl⟩,fun m e=>by cases e⟩
   simp [execOp,hop,hv,Instr.range,run_underlying hdd,run_newObj]
  | mp _ r hi =>
   simp only [BlkR,hi] at hbl
   obtain ⟨_,es,clock,hh,hmr,hst⟩ := hbl
   have hiN : blk id ≠ none := by rw [hB'];exact fun h=>by cases h
   have hlt : r.b < w.heap.size := (Array.getElem?_eq_some_iff.1 hh).1
   refine go (.mapIter (some r.b) clock #[] clock) (fun x=>x = r.b) ?_ (fun x hx=>?_) ⟨_,updR_same _ _ _,some r.b,clock,clock,#[],sL _ _,fun e=>(by cases e),fun m e=>?_⟩
   . simp [execOp,hop,hv,Instr.range,run_underlying hdd,run_getObj_map hh,run_newObj]
   . subst hx
     refine ⟨hlt,fun o h1=>?_,hR.ext.own id r r.b hiN hi (.inl rfl),fun j s hj hs hy=>?_⟩
     . have := (hR.env.imOwn id _ r o hB' hi).1 h1
       exact absurd this (Nat.not_lt_zero _)
     . have := qdg hj
       exact this.2 (hR.env.inj j id s r r.b this.1 hiN hs hi hy (.inl rfl))
   . cases e
     exact ⟨rfl,es,clock,(lI hlt).trans hh,hmr,hst,Nat.le_refl _,Nat.le_refl _,by rw [qno,hmr.size],fun e=>by cases e⟩
theorem qj1 (w : World) (ty : TypeId) (r bm since c0 : Nat) (seen : Array Nat) (es : Array MapEntry) (clock : Nat) (hr : w.heap[r]? = some (.mapIter (some bm) since seen c0))
 (hb : w.heap[bm]? = some (.map es clock)) (hold : Stamps es since) (hsc : since <= c0) :
 ((es.filter fun e => !seen.contains e.born).size = 0 /\ (Instr.next (.pointer (some ⟨r,0,none⟩)) false ty).run P w = .ok (.tuple #[.bool false]) w) \/
 ∃ e ∈ (es.filter fun e => !seen.contains e.born).toList,∃ k,(Instr.next (.pointer (some ⟨r,0,none⟩)) false ty).run P w = .ok (.tuple #[.bool true,e.key,e.val]) { w with drawn := k,heap := w.heap.setIfInBounds r (.mapIter (some bm) since (seen.push e.born) clock) } := by
 simp only [Instr.next,getObj,Sem.run_bind,Sem.run,hr,hb,Result.andThen,next_test_false seen es since c0 hold hsc,Bool.false_eq_true,if_false]
 have hmem : ∀ x ∈ (Array.filter (fun e => !seen.contains e.born) es).toList,x.born < since := fun x hx=>hold x (by simp at hx ⊢;exact hx.1)
 generalize Array.filter (fun e => !seen.contains e.born) es = L at hmem ⊢
 have e1 : L.filter (fun x=>decide (x.born < since)) = L := Array.filter_eq_self.2 (fun x hx=>by simpa using hmem x (by simpa using hx))
 have e2 : L.filter (fun x=>decide (x.born >= since)) = #[] := by
  rw [Array.filter_eq_empty_iff]
  intro x hx
  have := hmem x (by simpa using hx)
  simp
  omega
 simp only [e1,e2,Array.append_empty]
 by_cases h0 : L.size = 0
 . left
   have : L = #[] := Array.eq_empty_of_size_eq_zero h0
   subst this
   refine ⟨rfl, ?_⟩
   simp [choose,Sem.run,Question.forced]
 . right
   have hne : L.isEmpty = false := by simp [Array.isEmpty,h0]
   simp only [hne,Bool.false_eq_true,if_false,Array.empty_append,Array.size_map]
   have hch : ∃ (j : Nat) (k : Nat),j < L.size /\ (choose (Question.mapNext L.size)).run P w = .ok j { w with drawn := k } := by
    by_cases hf : L.size <= 1
    . exact ⟨0,w.drawn,by omega,by simp [choose,Sem.run,Question.forced,hf]⟩
    . exact ⟨_,w.drawn + 1,Nat.mod_lt _ omG,by
       simp only [choose,Sem.run,Question.forced,decide_eq_true_eq,hf,if_false,Question.cut]
       rfl⟩
   obtain ⟨j,k,hj,hrun⟩ := hch
   refine ⟨L[j],by simp,k, ?_⟩
   have hset : ∀ (o' : Obj),(setObj r o').run P { w with drawn := k } = .ok () { w with drawn := k,heap := w.heap.setIfInBounds r o' } := fun o'=>by
    simp only [setObj,Sem.run,hr]
   simp only [hrun,Array.getElem?_map,Array.getElem?_eq_getElem hj,Option.map_some,Sem.run_bind,hset,Result.andThen]
   rfl
theorem it_one {es : Array MapEntry} {seen : Array Nat} {e : MapEntry} (he : e ∈ (es.filter fun e => !seen.contains e.born).toList) : (es.filter fun x => !(seen.push e.born).contains x.born).size < (es.filter fun x => !seen.contains x.born).size := left_shrinks es seen e he
theorem qdt {id : Nat} {l : List (ByteArray × Int)} {n1 : Nat} {z : Bool} (hR : Rel w0 G Im0 ⟨n,tm,blk⟩ ρ Im a w) (hB : blk id = some (.it l n1 z)) {x : Operand} (ex : ev ⟨n,tm,blk⟩ x = .ptr id 0) :
 ∃ r,ρ id = some r /\ a.eval x = .pointer (some ⟨r.b,0,none⟩) /\ ItR w.heap r l n1 z := by
 obtain ⟨r,hr,H⟩ := hR.env.bl id _ hB
 have hm := j7 hR x
 rw [ex] at hm
 generalize a.eval x = u at hm
 cases hm with
 | ptr _ _ r' hi=>rw [hr] at hi;cases hi;exact ⟨r,hr,rfl,H⟩
theorem next_ok {o : Oper} {id : Nat} {x : Operand} {K : AState -> Prop} (hop : o.op = .next x false) (ex : ev S x = .ptr id 0)
 (h : uY S o.dst id K) (hR : Rel w0 G Im0 S ρ Im a w)
 {next : Act -> World -> Prop} {Q : Exit -> Act -> World -> Prop} (hn : ∀ S' a' w',K S' -> o5 w0 G Im0 S' a' w' -> next a' w') : o.wp P a w next Q := by
 unfold uY at h
 split at h
 case h_2=>exact h.elim
 rename_i l n1 z hB
 obtain ⟨n,tm,blk⟩ := S
 obtain ⟨r,hr,hv,H⟩ := qdt hR hB ex
 obtain ⟨bm,since,c0,seen,hh,h0,h1⟩ := H.ex
 obtain ⟨hz,hs⟩ := h
 have fin : ∀ {av : AV} {v : Value} {S1 : AState} {w1 : World},S1.put o.dst av K -> (execOp a.eval o).run P w = .ok (.value v) w1 -> Rel w0 G Im0 S1 ρ Im a w1 -> AVR ρ w1.heap Im av v -> o.wp P a w next Q := fun {av v S1 w1} hp hrun hR1 hav=>by
  obtain ⟨S',hK,hS'⟩ := zB (w0 := w0) (G := G) (Im0 := Im0) hp
  unfold Oper.wp
  rw [hrun]
  simp only [Oper.upon]
  exact hn S' _ _ hK ⟨_,_,hS' hR1 hav⟩
 have f1 : AVR ρ w.heap Im (.tup [.dat (.bool false)]) (.tuple #[.bool false]) := .tup _ _ (fun _ => .bool false) rfl (fun j hj=>by
  have : j = 0 := by simp at hj;omega
  subst this;rfl) (fun j y hj=>by
  have : j = 0 := by have := (List.getElem?_eq_some_iff.1 hj).1;simp at this;omega
  subst this;cases hj;exact .dat _ _ (.bool _))
 cases bm with
 | none =>
  refine fin (hz (h0 rfl).1) ?_ hR f1
  simp [execOp,hop,hv,Instr.next,getObj,Sem.run,hh,Result.andThen]
 | some m =>
  obtain ⟨hf,es,clock,h4,hmr,hst,h6,h7,hsz,_⟩ := h1 m rfl
  rcases qj1 (P := P) w o.type r.b m since c0 seen es clock hh h4 hst h6 with ⟨e0,hrun⟩|⟨e,he,k,hrun⟩
  . refine fin (hz (by rw [<- hsz];exact e0)) ?_ hR f1
    simp [execOp,hop,hv,hrun,Result.andThen]
  . have hlt := it_one he
    rw [hsz] at hlt
    have hmr1 : m ≠ r.b := fun e=>by rw [e,hh] at h4;cases h4
    have hset : (w.heap.setIfInBounds r.b (.mapIter (some m) since (seen.push e.born) clock))[r.b]? = some (.mapIter (some m) since (seen.push e.born) clock) := (heap_set hh).1
    refine fin (hs _ hlt) (v := .tuple #[.bool true,e.key,e.val]) (w1 := { w with drawn := k,heap := w.heap.setIfInBounds r.b (.mapIter (some m) since (seen.push e.born) clock) }) ?_ ?_ ?_
    . simp [execOp,hop,hv,hrun,Result.andThen]
    . refine hR.write (w' := { w with drawn := k,heap := w.heap.setIfInBounds r.b (.mapIter (some m) since (seen.push e.born) clock) }) (Im' := Im) hB hr (fun q hq=>(heap_set hh).2 q hq) (fun o hIo=>?_) (by simp) rfl rfl rfl (fun _ _ x=>x) (fun _ _ x => .inl x) ?_ (fun o=>?_)
      . exact absurd ((hR.env.imOwn id _ r o hB hr).1 hIo) (by simp [Blk.pinned])
      . refine ⟨r,hr,some m,since,clock,seen.push e.born,hset,fun e=>(by cases e),fun m' e'=>?_⟩
        cases e'
        exact ⟨hf,es,clock,((heap_set hh).2 m hmr1).trans h4,hmr,hst,h7,h7,rfl,fun _=>⟨rfl,e,(by simp at he;simpa using he.1),by simp⟩⟩
      . rw [hR.env.imOwn id _ r o hB hr];rfl
    . refine .tup _ _ (fun j=>(#[Value.bool true,e.key,e.val] : Array Value).getD j undef) rfl (fun j hj=>?_) (fun j y hj=>?_)
      . have : j = 0 \/ j = 1 \/ j = 2 := by simp at hj;omega
        rcases this with rfl|rfl|rfl <;> rfl
      . have : j = 0 \/ j = 1 \/ j = 2 := by have := (List.getElem?_eq_some_iff.1 hj).1;simp at this;omega
        rcases this with rfl|rfl|rfl
        . cases hj;exact .dat _ _ (.bool _)
        . cases hj;exact .any _
        . cases hj;exact .any _
theorem qnr {o : Oper} {id : Nat} {x : Operand} {K : AState -> Prop} (hop : o.op = .entry x) (ex : ev S x = .ptr id 0)
 (h : aZ S o.dst id K) (hR : Rel w0 G Im0 S ρ Im a w)
 {next : Act -> World -> Prop} {Q : Exit -> Act -> World -> Prop} (hn : ∀ S' a' w',K S' -> o5 w0 G Im0 S' a' w' -> next a' w') : o.wp P a w next Q := by
 unfold aZ at h
 split at h
 case h_2=>exact h.elim
 rename_i l n1 hB
 obtain ⟨n,tm,blk⟩ := S
 obtain ⟨r,hr,hv,H⟩ := qdt hR hB ex
 obtain ⟨bm,since,c0,seen,hh,h0,h1⟩ := H.ex
 cases bm with
 | none=>exact absurd (h0 rfl).2 (by decide)
 | some m =>
  obtain ⟨hf,es,clock,h4,hmr,hst,h6,h7,hsz,hz⟩ := h1 m rfl
  obtain ⟨e2,e,he,hb⟩ := hz rfl
  obtain ⟨x1,hfd⟩ : ∃ x1,es.find? (·.born == e.born) = some x1 := by
   cases hq : es.find? (·.born == e.born) with
   | some x1=>exact ⟨x1,rfl⟩
   | none =>
    rw [Array.find?_eq_none] at hq
    exact absurd (beq_self_eq_true e.born) (hq e (by simpa using he))
  have hx1 : x1 ∈ es.toList := by simpa using Array.mem_of_find?_eq_some hfd
  obtain ⟨i,hi⟩ := List.mem_iff_getElem?.1 hx1
  have hli := congrArg (fun q=>q[i]?) hmr
  simp only [List.getElem?_map,hi,Option.map_some] at hli
  cases hl : l[i]? with
  | none=>rw [hl] at hli;cases hli
  | some y =>
   rw [hl] at hli
   obtain ⟨s,v⟩ := y
   simp only [Option.map_some,Option.some.injEq,Prod.mk.injEq] at hli
   have hp := h s v (List.mem_of_getElem? hl)
   obtain ⟨S',hK,hS'⟩ := zB (w0 := w0) (G := G) (Im0 := Im0) hp
   have hrun : (execOp a.eval o).run P w = .ok (.value (.tuple #[.string s,.int .i64 v])) w := by
    have hrn : (Instr.entry (.pointer (some ⟨r.b,0,none⟩))).run P w = .ok (.tuple #[.string s,.int .i64 v]) w := by
     simp only [Instr.entry,getObj,Sem.run_bind,Sem.run,hh,h4,Result.andThen,hb,e2,bne_self_eq_false,Bool.false_eq_true,if_false,hfd]
     rw [hli.1,hli.2];rfl
    simp [execOp,hop,hv,hrn,Result.andThen]
   unfold Oper.wp
   rw [hrun]
   simp only [Oper.upon]
   refine hn S' _ _ hK ⟨_,_,hS' hR (.tup _ _ (fun j=>(#[Value.string s,.int .i64 v] : Array Value).getD j undef) rfl (fun j hj=>?_) (fun j y hj=>?_))⟩
   . have : j = 0 \/ j = 1 := by simp at hj;omega
     rcases this with rfl|rfl <;> rfl
   . have : j = 0 \/ j = 1 := by have := (List.getElem?_eq_some_iff.1 hj).1;simp at this;omega
     rcases this with rfl|rfl
     . cases hj;exact .dat _ _ (.str _)
     . cases hj;exact .dat _ _ (.int _ _)
end
end Vg
namespace Vg
open Go
section
variable {P : Program} {τ : Tys} {Im Im' : Nat -> Nat -> Prop} {ρ ρ' ρ2 : Rho} {h h' : Array Obj} {w w' : World}
variable {w0 : World} {G : GP} {Im0 : Nat -> Nat -> Prop} {S : AState} {a : Act} {n : Nat} {tm : Nat -> AV} {blk : Nat -> Option Blk}
theorem qbm {T E : Nat} (hd : P.underlying T = some (.slice E)) (b : Option Addr) (n c : Nat) : (Op.equal T (.slice b n c) (.slice none 0 0)).run P w = .ok b.isNone w := by
 unfold Op.equal
 obtain ⟨d,hd'⟩ : ∃ d,Op.maxDepth = d + 1 := ⟨9999,rfl⟩
 rw [hd']
 simp only [Op.equalIn,Sem.run_bind,k8 hd,Result.andThen_ok]
 cases b <;> rfl
theorem eF [hT : Nonempty (TabH w0.heap Im0)] (hτ : d6 P τ) {o : Oper} {K : AState -> Prop} (h : pval P τ (ev S) S.blk o.op fun v=>force v fun v=>S.put o.dst v K) (hR : Rel w0 G Im0 S ρ Im a w)
 {next : Act -> World -> Prop} {Q : Exit -> Act -> World -> Prop} (hn : ∀ S' a' w',K S' -> o5 w0 G Im0 S' a' w' -> next a' w') : o.wp P a w next Q := by
 obtain ⟨av,h1,_,h2⟩ := qby hτ hR h
 rw [gE] at h1
 obtain ⟨S',hK,hS'⟩ := zB (w0 := w0) (G := G) (Im0 := Im0) h1
 exact h2 next Q fun v w' Im' hR' hv=>hn S' _ _ hK ⟨_,_,hS' hR' hv⟩
theorem qne [hT : Nonempty (TabH w0.heap Im0)] (hτ : d6 P τ) {o : Oper} {T id : Nat} {x : Operand} {lo hi : Option Operand} {K : AState -> Prop} (hop : o.op = .slice T x lo hi none) (hx : ev S x = .row id)
 (h : fX P τ S o.dst T x lo hi id K) (hR : Rel w0 G Im0 S ρ Im a w)
 {next : Act -> World -> Prop} {Q : Exit -> Act -> World -> Prop} (hn : ∀ S' a' w',K S' -> o5 w0 G Im0 S' a' w' -> next a' w') : o.wp P a w next Q := by
 unfold fX at h
 split at h
 . rename_i s
   split at h
   rename_i n tm blk
   split at h
   . rename_i E κ l sh hB
     obtain ⟨Im',hR',hI,hv⟩ := hR.freeze hB
     have ht : tm s = .row id := hx
     rw [<- hop] at h
     refine eF hτ (S := ⟨n,z6 tm s (.dat (.seq κ l)),updB blk id (some (.row E κ l true))⟩) h ⟨hR'.defers,hR'.size,fun t=>?_,hR'.env,hR'.ext⟩ hn
     show AVR _ _ _ (z6 tm s (.dat (.seq κ l)) t) _
     unfold z6
     split
     . rename_i e
       have e' := Nat.eq_of_beq_eq_true e
       subst e'
       have h1 := hR.tm t
       change AVR _ _ _ (tm t) _ at h1
       rw [ht] at h1
       exact .dat _ _ (hv _ h1)
     . exact hR'.tm t
   . exact h.elim
 . exact h.elim
theorem gX : ∀ (l : List Nat) (S : AState) (Im : Nat -> Nat -> Prop) (K : AState -> Prop),rO l S K -> Rel w0 G Im0 S ρ Im a w -> ∃ S' Im',K S' /\ Rel w0 G Im0 S' ρ Im' a w /\ ∀ x,ev S' x = ev S x
 | [],S,Im,K,h,hR=>⟨S,Im,h,hR,fun _=>rfl⟩
 | i :: l,⟨n,tm,blk⟩,Im,K,h,hR=>by
  simp only [rO] at h
  split at h
  . rename_i T κ x sh hB
    obtain ⟨Im1,hR1,_,_⟩ := hR.freeze hB
    obtain ⟨S',Im',h1,h2,h3⟩ := gX l _ Im1 K h hR1
    exact ⟨S',Im',h1,h2,fun y=>(h3 y).trans (by cases y <;> rfl)⟩
  . exact gX l _ Im K h hR
theorem qhu [hT : Nonempty (TabH w0.heap Im0)] (hR : Rel w0 G Im0 S ρ Im a w) {o : Oper} {f : Operand} {args : Array Operand} {ts : Array Nat} {g : Nat} {K : AState -> Prop}
 (ho : o.op = .call { callee := .value f,args := args,argTypes := ts }) (hf : ev S f = .fn g [])
 (h : kT P τ S o.dst g ts.toList (args.toList.map (ev S)) K) {next : Act -> World -> Prop} {Q : Exit -> Act -> World -> Prop}
 (hn : ∀ S' a' w',K S' -> o5 w0 G Im0 S' a' w' -> next a' w') : o.wp P a w next Q := by
 unfold kT at h
 rw [tO] at h
 obtain ⟨S',Im',h1,h2,h3⟩ := gX _ S Im _ h hR
 have e : args.toList.map (ev S) = args.toList.map (ev S') := List.map_congr_left fun x _=>(h3 x).symm
 rw [e] at h1
 exact qfe h2 ho ((h3 f).trans hf) h1 hn
def CapR (h : Array Obj) (Im : Nat -> Nat -> Prop) : CapD -> Value -> Prop
 | .int k n,v=>v = .int k n
 | .prog w m i c,v=>∃ (b o : Nat) (cf : Nat -> Value),v = .pointer (some ⟨b,o,none⟩) /\ (∀ j',j' < 4 -> Im b (o + j')) /\ (∀ j',j' < 4 -> hcell h b (o + j') = some (cf j')) /\
  ∀ j',j' < 4 -> RepD h Im ((K.progs.enc ⟨w,m,i,c⟩).getD j' (.bool false)) (cf j')
theorem CapR.mono {h : Array Obj} {Im Im' : Nat -> Nat -> Prop} (hI : ∀ b o,Im b o -> Im' b o) : ∀ {c : CapD} {v : Value},CapR h Im c v -> CapR h Im' c v
 | .int _ _,_,h=>h
 | .prog _ _ _ _,_,⟨b,o,cf,h1,h2,h3,h4⟩=>⟨b,o,cf,h1,fun j' hj'=>hI _ _ (h2 j' hj'),h3,fun j' hj'=>(h4 j' hj').mono (fun _ _ _=>rfl) hI⟩
theorem mkClo {h : Array Obj} {Im : Nat -> Nat -> Prop} {g : Nat} {caps : List CapD} {cs : Array Value} (hsz : cs.size = caps.length)
 (hr : ∀ (j : Nat) c,caps[j]? = some c -> ∃ v,cs[j]? = some v /\ CapR h Im c v) : RepD h Im (.clo g caps) (.func (.func g) #[] cs) := by
 have key : ∀ j : Nat,∃ (b o : Nat) (cf : Nat -> Value),∀ w m i c,caps[j]? = some (CapD.prog w m i c) -> cs[j]? = some (Value.pointer (some ⟨b,o,none⟩)) /\ (∀ j',j' < 4 -> Im b (o + j')) /\ (∀ j',j' < 4 -> hcell h b (o + j') = some (cf j')) /\
  ∀ j',j' < 4 -> RepD h Im ((K.progs.enc ⟨w,m,i,c⟩).getD j' (.bool false)) (cf j') := fun j=>by
  by_cases hq : ∃ w m i c,caps[j]? = some (CapD.prog w m i c)
  . obtain ⟨w,m,i,c,e⟩ := hq
    obtain ⟨v,h1,b,o,cf,rfl,h2,h3,h4⟩ := hr j _ e
    refine ⟨b,o,cf,fun w' m' i' c' e'=>?_⟩
    rw [e] at e';cases e'
    exact ⟨h1,h2,h3,h4⟩
  . exact ⟨0,0,fun _=>undef,fun w m i c e=>absurd ⟨w,m,i,c,e⟩ hq⟩
 refine .clo g caps cs (fun j=>(key j).choose) (fun j=>(key j).choose_spec.choose) (fun j=>(key j).choose_spec.choose_spec.choose) hsz (fun j k n e=>?_)
  (fun j w m i c e=>((key j).choose_spec.choose_spec.choose_spec w m i c e).1) (fun j w m i c e=>((key j).choose_spec.choose_spec.choose_spec w m i c e).2.1)
  (fun j w m i c e=>((key j).choose_spec.choose_spec.choose_spec w m i c e).2.2.1) (fun j w m i c e=>((key j).choose_spec.choose_spec.choose_spec w m i c e).2.2.2)
 obtain ⟨v,h1,h2⟩ := hr j _ e
 rw [h1,show v = _ from h2]
theorem qk3 {n : Nat} {tm : Nat -> AV} {blk : Nat -> Option Blk} (hR : Rel w0 G Im0 ⟨n,tm,blk⟩ ρ Im a w) {id t : Nat} {p m i : Int} {c : List V.Ins} (hi : blk id = some (.box [.dat (.int .i64 p),.dat (.int .i64 m),.dat (.int .i64 i),.dat (.seq .inss c)]))
 (ht : tm t = .ptr id 0) : ∃ Im',Rel w0 G Im0 (AState.meltP ⟨n,tm,blk⟩ id t p m i c) ρ Im' a w /\ (∀ b o,Im b o -> Im' b o) /\ CapR w.heap Im' (.prog p m i c) (a.tmps.getD t undef) := by
 have hb := hR.env.bl id _ hi
 obtain ⟨r',cs,T,hr2,hh,_,hcs⟩ := hb
 obtain ⟨Im',hR',hI,r,hr,hown⟩ := hR.giveUp (show blk id ≠ none by rw [hi];exact fun h=>by cases h) ⟨_,hr2⟩
 rw [hr] at hr2
 have hrr := Option.some.inj hr2
 subst hrr
 obtain ⟨c0,g0,q0⟩ := hcs 0 _ rfl
 obtain ⟨c1,g1,q1⟩ := hcs 1 _ rfl
 obtain ⟨c2,g2,q2⟩ := hcs 2 _ rfl
 obtain ⟨c3,g3,q3⟩ := hcs 3 _ rfl
 have hv := hR.tm t
 rw [show (AState.mk n tm blk).tm t = .ptr id 0 from ht] at hv
 have e1 : a.tmps.getD t undef = .pointer (some ⟨r.b,0,none⟩) := by
  generalize a.tmps.getD t undef = u at hv
  cases hv with
  | ptr _ _ s hs=>rw [hr] at hs;cases hs;rfl
 have cell : ∀ (j : Nat) (v : Value),cs[j]? = some v -> hcell w.heap r.b (0 + j) = some v := fun j v hj=>by rw [Nat.zero_add];simp [Vg.hcell,hh,hj]
 have dd : ∀ {d : Dat} {v : Value},AVR ρ w.heap Im (.dat d) v -> RepD w.heap Im' d v := fun h=>by cases h with|dat _ _ hd=>exact hd.mono (fun _ _ _=>rfl) hI
 have hcap : CapR w.heap Im' (.prog p m i c) (a.tmps.getD t undef) := by
  rw [e1]
  refine ⟨r.b,0,fun j=>match j with|0=>c0|1=>c1|2=>c2|_=>c3,rfl,fun j' _=>hown _,fun j' hj'=>?_,fun j' hj'=>?_⟩
  . match j',hj' with
    | 0,_=>exact cell 0 _ g0
    | 1,_=>exact cell 1 _ g1
    | 2,_=>exact cell 2 _ g2
    | 3,_=>exact cell 3 _ g3
  . match j',hj' with
    | 0,_=>exact dd q0
    | 1,_=>exact dd q1
    | 2,_=>exact dd q2
    | 3,_=>exact dd q3
 refine ⟨Im',⟨hR'.defers,hR'.size,fun t'=>?_,hR'.env,hR'.ext⟩,hI,hcap⟩
 show AVR ρ w.heap Im' (z6 tm t _ t') _
 by_cases e : t' = t
 . subst e
   rw [updT_same]
   obtain ⟨b,o,cf,h1,h2,h3,h4⟩ := hcap
   rw [h1]
   exact .eptr .progs ⟨p,m,i,c⟩ 0 b o cf h2 h3 h4
 . rw [updT_ne _ e];exact hR'.tm t'
theorem qgn : ∀ (xs : List Operand) {S : AState} {Im : Nat -> Nat -> Prop} {K : AState -> List CapD -> Prop},cK S xs K -> Rel w0 G Im0 S ρ Im a w ->
 ∃ S' Im' l,K S' l /\ Rel w0 G Im0 S' ρ Im' a w /\ (∀ b o,Im b o -> Im' b o) /\ l.length = xs.length /\ ∀ (j : Nat) c,l[j]? = some c -> ∃ x,xs[j]? = some x /\ CapR w.heap Im' c (a.eval x)
 | [],S,Im,K,h,hR=>⟨S,Im,[],h,hR,fun _ _ x=>x,rfl,fun j c e=>by simp at e⟩
 | x :: xs,S,Im,K,h,hR=>by
  have fin : ∀ {S1 : AState} {Im1 : Nat -> Nat -> Prop} {c : CapD},cK S1 xs (fun S l=>K S (c :: l)) -> Rel w0 G Im0 S1 ρ Im1 a w -> (∀ b o,Im b o -> Im1 b o) -> CapR w.heap Im1 c (a.eval x) ->
   ∃ S' Im' l,K S' l /\ Rel w0 G Im0 S' ρ Im' a w /\ (∀ b o,Im b o -> Im' b o) /\ l.length = (x :: xs).length /\ ∀ (j : Nat) c,l[j]? = some c -> ∃ y,(x :: xs)[j]? = some y /\ CapR w.heap Im' c (a.eval y) := by
   intro S1 Im1 c h1 hR1 hI1 hc
   obtain ⟨S',Im',l,hK,hR',hI',hl,hq⟩ := qgn xs h1 hR1
   refine ⟨S',Im',c :: l,hK,hR',fun b o z=>hI' b o (hI1 b o z),by simp [hl],fun j d e=>?_⟩
   cases j with
   | zero=>simp at e;subst e;exact ⟨x,rfl,hc.mono hI'⟩
   | succ j=>simp at e;obtain ⟨y,h2,h3⟩ := hq j d e;exact ⟨y,by simpa using h2,h3⟩
  have hx := j7 hR x
  unfold cK at h
  split at h
  . rename_i k n e
    rw [e] at hx
    exact fin h hR (fun _ _ z=>z) (i9 hx)
  . rename_i id e
    split at h
    . rename_i t w' m i c hb
      obtain ⟨n,tm,blk⟩ := S
      obtain ⟨Im1,hR1,hI1,hc⟩ := qk3 hR hb e
      exact fin h hR1 hI1 hc
    . exact h.elim
  . rename_i p e
    rw [e] at hx
    refine fin h hR (fun _ _ z=>z) ?_
    generalize a.eval x = u at hx
    cases hx with
    | eptr _ _ _ b o cf h1 h2 h3=>exact ⟨b,o,cf,rfl,h1,h2,h3⟩
  . exact h.elim
theorem qaq [hT : Nonempty (TabH w0.heap Im0)] (hτ : d6 P τ) {o : Oper} {K : AState -> Prop} (h : step P τ o S K) (hR : Rel w0 G Im0 S ρ Im a w)
 {next : Act -> World -> Prop} {Q : Exit -> Act -> World -> Prop} (hn : ∀ S' a' w',K S' -> o5 w0 G Im0 S' a' w' -> next a' w') : o.wp P a w next Q := by
 unfold step at h
 cases hop : o.op <;> simp only [hop] at h
 case alloc T =>
  cases hd : o.dst with
  | none=>simp [hd] at h
  | some t =>
   cases hT : τ T with
   | none=>simp [hd,hT] at h
   | some i =>
    simp only [hd,hT,forceL_eq] at h
    cases ha : (i.zero.map xF).all AV.oneC with
    | false=>simp only [ha] at h
    | true =>
     simp only [ha] at h
     cases hb : bldN (i.zero.map xF) T with
     | false=>simp only [hb] at h
     | true=>simp only [hb] at h;exact qop hτ hop hd hT hb h hR hn
 case box T x =>
  cases hd : o.dst with
  | none=>simp [hd] at h
  | some t =>
   cases hT : τ T with
   | none=>simp [hd,hT] at h
   | some i =>
    cases hc : (ev S x).cells1 with
    | none=>simp [hd,hT,hc] at h
    | some vs =>
     simp only [hd,hT,hc,forceL_eq] at h
     cases ha : vs.all AV.oneC with
     | false=>simp only [ha] at h
     | true =>
      simp only [ha] at h
      cases hb : mB vs with
      | true=>simp only [hb] at h
      | false=>simp only [hb] at h;exact box_ok hop hd hc hb h hR hn
 case buildSlice T len parts =>
  cases hd : o.dst with
  | none=>simp [hd] at h
  | some t =>
   cases hT : τ T with
   | none=>simp [hd,hT] at h
   | some i =>
    simp only [hd,hT] at h
    cases hde : i.desc <;> simp only [hde] at h <;> try exact h.elim
    rename_i E κ
    cases hE : τ E with
    | none=>simp [hE] at h
    | some ie =>
     simp only [hE] at h
     cases h1 : Nat.beq ie.size κ.sz with
     | false=>simp only [h1] at h
     | true =>
      cases h2 : Nat.beq parts.toList.length len with
      | false=>simp only [h1,h2] at h
      | true =>
       cases h3 : Nat.ble (len * ie.size) 16777216 with
       | false=>simp only [h1,h2,h3] at h
       | true =>
        simp only [h1,h2,h3] at h
        cases hf : κ.flat with
        | true=>simp only [hf] at h;exact qgx hτ hop hd hT hde hE (Nat.eq_of_beq_eq_true h1) (Nat.eq_of_beq_eq_true h2) (Nat.le_of_ble_eq_true h3) h hR hn
        | false =>
         simp only [hf] at h
         rcases h with ⟨h⟩|⟨h⟩
         . exact qgx hτ hop hd hT hde hE (Nat.eq_of_beq_eq_true h1) (Nat.eq_of_beq_eq_true h2) (Nat.le_of_ble_eq_true h3) h hR hn
         . exact qod hτ hop hd hT hde hE (Nat.eq_of_beq_eq_true h1) (Nat.eq_of_beq_eq_true h2) (Nat.le_of_ble_eq_true h3) h hR hn
 case makeSlice T l c =>
  cases hd : o.dst with
  | none=>simp [hd] at h
  | some t =>
   cases hT : τ T with
   | none=>simp [hd,hT] at h
   | some i =>
    simp only [hd,hT] at h
    cases hde : i.desc <;> simp only [hde] at h <;> try exact h.elim
    rename_i E κ
    cases hE : τ E with
    | none=>simp [hE] at h
    | some ie =>
     simp only [hE] at h
     cases h1 : Nat.beq ie.size κ.sz with
     | false=>simp only [h1] at h
     | true =>
      cases h2 : κ.dec ie.zeroD with
      | none=>simp only [h1,h2] at h
      | some z =>
       simp only [h1,h2] at h
       split at h
       . rename_i l' m' e1 e2
         obtain ⟨hb,h⟩ := h
         cases hf : κ.flat with
         | true =>
          simp only [hf] at h
          exact qc1 hτ hop hd hT hde hE (Nat.eq_of_beq_eq_true h1) h2 e1 e2 hb h hR hn
         | false =>
          simp only [hf] at h
          rcases h with ⟨h⟩|⟨h⟩
          . exact qc1 hτ hop hd hT hde hE (Nat.eq_of_beq_eq_true h1) h2 e1 e2 hb h hR hn
          . cases hz : (ie.zero.all Value.hollow && ie.zeroD.all Dat.hollow) with
            | false=>simp only [hz] at h
            | true=>simp only [hz] at h;exact qk7 hτ hop hd hT hde hE (Nat.eq_of_beq_eq_true h1) h2 e1 e2 hb hz h hR hn
       . exact h.elim
 case slice T x lo hi mx =>
  cases mx with
  | some m =>
   cases lo with
   | some l0=>simp only at h;rw [<- hop] at h;exact eF hτ h hR hn
   | none =>
    cases hi with
    | none=>simp only at h;rw [<- hop] at h;exact eF hτ h hR hn
    | some y =>
     simp only at h
     split at h
     . rename_i id e
       exact qkc hτ hop e h hR hn
     . rw [<- hop] at h;exact eF hτ h hR hn
  | none =>
   simp only at h
   split at h
   . rename_i id e
     rcases h with ⟨h⟩|⟨h⟩
     . exact qkb hτ hop e h hR hn
     . exact qne hτ hop e h hR hn
   . rw [<- hop] at h;exact eF hτ h hR hn
 case store T pa x=>exact qog hτ hop h hR hn
 case makeMap T r =>
  cases r with
  | some x=>simp only at h;rw [<- hop] at h;exact eF hτ h hR hn
  | none =>
   simp only at h
   cases hd : o.dst with
   | none=>simp [hd] at h
   | some t =>
    cases hT : τ T with
    | none=>simp [hd,hT] at h
    | some i =>
     simp only [hd,hT] at h
     cases hde : i.desc <;> simp only [hde] at h <;> try exact h.elim
     exact qk8 hop hd h hR hn
 case mapUpdate T m k x=>exact qk6 hτ hop h hR hn
 case range T x=>exact qkd hτ hop h hR hn
 case next x b =>
  cases b with
  | true=>simp only at h;rw [<- hop] at h;exact eF hτ h hR hn
  | false =>
   simp only at h
   split at h
   . rename_i id e
     exact next_ok hop e h hR hn
   . exact h.elim
 case entry x =>
  split at h
  . rename_i id e
    exact qnr hop e h hR hn
  . exact h.elim
 case binOp op T x y U =>
  split at h
  . rename_i κ l ex ey
    cases hT : τ T with
    | none=>simp [hT] at h
    | some i =>
     simp only [hT] at h
     obtain ⟨d,hdd,_,hdesc⟩ := (hτ T i hT).und
     cases hde : i.desc <;> simp only [hde] at h hdesc <;> try exact h.elim
     subst hdesc
     have hx := j7 hR x
     have hy := j7 hR y
     rw [ex] at hx
     rw [ey] at hy
     have hyv := cH hy
     obtain ⟨ad,cap,hxv,_,hrest⟩ := (eP hx).seq_view
     have hlen : ad.isNone = true -> l.length = 0 := fun e=>by
      cases ad with
      | none =>
       by_cases h0 : l.length = 0
       . exact h0
       . obtain ⟨_,_,_,e',_⟩ := hrest h0;cases e'
      | some _=>simp at e
     unfold anil at h
     split at h
     . obtain ⟨S',hK,hS'⟩ := zB (w0 := w0) (G := G) (Im0 := Im0) (h ad.isNone hlen)
       have : (execOp a.eval o).run P w = .ok (.value (.bool ad.isNone)) w := by
        simp [execOp,hop,hxv,hyv,eqGuard,binOp,qbm hdd]
       unfold Oper.wp
       rw [this]
       exact hn S' _ _ hK ⟨_,_,hS' hR (mk_bool _ _)⟩
     . obtain ⟨S',hK,hS'⟩ := zB (w0 := w0) (G := G) (Im0 := Im0) (h (!ad.isNone) (fun e=>hlen (by simpa using e)))
       have : (execOp a.eval o).run P w = .ok (.value (.bool !ad.isNone)) w := by
        simp [execOp,hop,hxv,hyv,eqGuard,binOp,qbm hdd]
       unfold Oper.wp
       rw [this]
       exact hn S' _ _ hK ⟨_,_,hS' hR (mk_bool _ _)⟩
     . exact h.elim
  . rename_i id ex ey
    exact qk5 hτ hop ex ey h hR hn
  . rw [<- hop] at h;exact eF hτ h hR hn
 case call c =>
  obtain ⟨callee,args,ts⟩ := c
  cases callee with
  | value f =>
   simp only at h
   split at h
   . rename_i g e
     rcases h with h|h
     . obtain ⟨av,h1,_,h2⟩ := qb3 hR hop e h
       rw [gE] at h1
       obtain ⟨S',hK,hS'⟩ := zB (w0 := w0) (G := G) (Im0 := Im0) h1
       exact h2 next Q fun v w' Im' hR' hv=>hn S' _ _ hK ⟨_,_,hS' hR' hv⟩
     . rcases h with h|h|h
       . exact qfe hR hop e h hn
       . exact qnd hR hop e h hn
       . rw [forceLM_eq] at h
         exact qhu hR hop e h hn
   . rename_i g caps e
     exact qnp hR hop e h hn
   . exact h.elim
  | invoke r m =>
   have h' : pval P τ (ev S) S.blk (.call { callee := .invoke r m,args := args,argTypes := ts }) fun v=>force v fun v=>S.put o.dst v K := h
   rw [<- hop] at h';exact eF hτ h' hR hn
  | builtin b =>
   by_cases hb : b = .append
   . subst hb
     simp only at h
     split at h
     . rename_i x y T T' e1 e2
       cases hTT : Nat.beq T T' with
       | false =>
        simp only [hTT] at h
        have e1' : args = #[x,y] := by cases args;simpa using e1
        have e2' : ts = #[T,T'] := by cases ts;simpa using e2
        subst e1' e2'
        split at h
        . rename_i s e
          exact qo7 hτ hop e h hR hn
        . exact h.elim
       | true =>
        simp only [hTT] at h
        have hT : T = T' := Nat.eq_of_beq_eq_true hTT
        subst hT
        have e1' : args = #[x,y] := by cases args;simpa using e1
        have e2' : ts = #[T,T] := by cases ts;simpa using e2
        subst e1' e2'
        split at h
        . rename_i id2 e
          split at h
          . exact qo6 hτ hop e h hR hn
          . exact qhs hτ hop (by rw [e];exact h) hR hn
        . exact qhs hτ hop h hR hn
     . exact h.elim
   . have h' : pval P τ (ev S) S.blk (.call { callee := .builtin b,args := args,argTypes := ts }) fun v=>force v fun v=>S.put o.dst v K := by
      cases b <;> first|exact h|exact absurd rfl hb
     rw [<- hop] at h';exact eF hτ h' hR hn
 case makeFunc f first captured =>
  cases f with
  | func g =>
   simp only at h
   split at h
   . rename_i e1
     have e1' : first = #[] := by cases first;simpa using e1
     subst e1'
     obtain ⟨S1,Im1,l,h1,hR1,hI1,hl,hq⟩ := qgn _ h hR
     obtain ⟨S',hK,hS'⟩ := zB (w0 := w0) (G := G) (Im0 := Im0) h1
     have hc : RepD w.heap Im1 (.clo g l) (.func (.func g) #[] (captured.map a.eval)) := mkClo (by simpa using hl.symm) (fun j c e=>by
      obtain ⟨x,h2,h3⟩ := hq j c e
      exact ⟨a.eval x,by simp at h2;simp [h2],h3⟩)
     have : (execOp a.eval o).run P w = .ok (.value (.func (.func g) #[] (captured.map a.eval))) w := by
      simp [execOp,hop,Instr.makeFunc]
     unfold Oper.wp
     rw [this]
     exact hn S' _ _ hK ⟨_,_,hS' hR1 (.dat _ _ hc)⟩
   . exact h.elim
  | _=>exact (show False from h).elim
 all_goals (rw [<- hop] at h;exact eF hτ h hR hn)
/-! ### a list of operations -/
theorem qa7 {t : Nat} {b : Bool} {c : Bool} (hR : Rel w0 G Im0 S ρ Im a w) (ht : S.tm t = .dat (.bool c)) (hc : c = b) : Rel w0 G Im0 (S.setT t (.dat (.bool b))) ρ Im a w := by
 obtain ⟨n,tm,blk⟩ := S
 refine ⟨hR.defers,hR.size,fun s=>?_,hR.env,hR.ext⟩
 simp only [AState.setT]
 by_cases e : s = t
 . subst e;rw [updT_same]
   have := hR.tm s
   rw [ht,hc] at this
   exact this
 . rw [updT_ne _ e];exact hR.tm s
theorem qT {ops : Array Oper} {o : Oper} {g t : Nat} {want c : Bool} (hg : o.guard = some (g,want)) (ht : (ops[g]?).bind (·.dst) = some t) (hR : Rel w0 G Im0 S ρ Im a w) (hs : S.tm t = .dat (.bool c)) :
 Region.wanted o (yielded ops a.tmps) = (c == want) := by
 have h1 := hR.tm t
 rw [hs] at h1
 have h2 := yJ h1
 have h3 : yielded ops a.tmps g = some c := by
  unfold yielded
  rw [ht]
  simp only [Array.getD_eq_getD_getElem?] at h2
  cases h4 : a.tmps[t]? with
  | none=>simp [h4,undef] at h2
  | some v=>simp [h4] at h2;subst h2;simp [h4]
 unfold Region.wanted
 rw [hg]
 simp only [h3]
 cases c <;> cases want <;> rfl
theorem cN : AVR ρ w.heap Im (.tup []) undef := .tup [] #[] (fun _=>undef) rfl (by simp) (by simp)
theorem pT {ops : Array Oper} {o : Oper} {g t : Nat} {want : Bool} (hg : o.guard = some (g,want)) (ht : (ops[g]?).bind (·.dst) = some t) (hR : Rel w0 G Im0 S ρ Im a w) (hs : S.tm t = .tup []) :
 Region.wanted o (yielded ops a.tmps) = false := by
 have h1 := hR.tm t
 rw [hs] at h1
 have h3 : yielded ops a.tmps g = none := by
  unfold yielded
  rw [ht]
  simp only [Array.getD_eq_getD_getElem?] at h1
  cases h4 : a.tmps[t]? with
  | none=>simp [h4]
  | some v =>
   simp only [h4,Option.getD_some] at h1
   cases h1
   simp [h4]
 unfold Region.wanted
 rw [hg]
 simp only [h3]
 cases want <;> rfl
theorem sS [hT : Nonempty (TabH w0.heap Im0)] (hτ : d6 P τ) {ops : Array Oper} {Q : Exit -> Act -> World -> Prop} {o : Oper} {rest : List Oper} {K : AState -> Prop} {K' : Act -> World -> Prop} (h : w8 P τ ops (o :: rest) S K)
 (hR : Rel w0 G Im0 S ρ Im a w) (hn : ∀ S' a' w',w8 P τ ops rest S' K -> o5 w0 G Im0 S' a' w' -> K' a' w') :
 if Region.wanted o (yielded ops a.tmps) then o.wp P a w K' Q else K' (a.put o.dst undef) w := by
 simp only [w8] at h
 cases hg : o.guard with
 | none =>
  simp only [hg] at h
  have hw : Region.wanted o (yielded ops a.tmps) = true := by simp [Region.wanted,hg]
  rw [if_pos hw]
  exact qaq hτ h hR hn
 | some gw =>
  obtain ⟨g,want⟩ := gw
  simp only [hg] at h
  cases ht : (ops[g]?).bind (·.dst) with
  | none=>simp [ht] at h
  | some t =>
   simp only [ht] at h
   split at h
   . rename_i c hc
     have hw := qT hg ht hR hc
     have run : ∀ b,c = b -> step P τ o (S.setT t (.dat (.bool b))) (fun S=>w8 P τ ops rest S K) -> o.wp P a w K' Q := fun b hb hs =>
      qaq hτ hs (qa7 hR hc hb) hn
     have skip : ∀ b,c = b -> (S.setT t (.dat (.bool b))).put o.dst (.tup []) (fun S=>w8 P τ ops rest S K) -> K' (a.put o.dst undef) w := fun b hb hs=>by
      obtain ⟨S',hS,hS'⟩ := zB (w0 := w0) (G := G) (Im0 := Im0) hs
      exact hn S' _ _ hS ⟨_,_,hS' (qa7 hR hc hb) cN⟩
     rw [hw]
     cases want with
     | true=>cases c with
      | true=>rw [if_pos (by decide)];exact run true rfl (h.1 rfl)
      | false=>rw [if_neg (by decide)];exact skip false rfl (h.2 rfl)
     | false=>cases c with
      | true=>rw [if_neg (by decide)];exact skip true rfl (h.2 rfl)
      | false=>rw [if_pos (by decide)];exact run false rfl (h.1 rfl)
   . rename_i hc
     have hw := pT hg ht hR hc
     rw [hw,if_neg (by decide)]
     obtain ⟨S',hS,hS'⟩ := zB (w0 := w0) (G := G) (Im0 := Im0) h
     exact hn S' _ _ hS ⟨_,_,hS' hR cN⟩
   . exact h.elim
theorem kY [hT : Nonempty (TabH w0.heap Im0)] (hτ : d6 P τ) {ops : Array Oper} {Q : Exit -> Act -> World -> Prop} : ∀ (l : List Oper) (S : AState) (K : AState -> Prop) (a : Act) (w : World),w8 P τ ops l S K -> o5 w0 G Im0 S a w ->
 (∀ S' a' w',K S' -> o5 w0 G Im0 S' a' w' -> Q .normal a' w') -> wpList P ops Q l a w
 | [],S,K,a,w,h,hR,hn=>hn S a w h hR
 | o :: rest,S,K,a,w,h,⟨ρ,Im,hR⟩,hn=>by
  have ih := fun S a w h hR=>kY hτ (ops := ops) (Q := Q) rest S K a w h hR hn
  exact wpList_step fun K' hK'=>sS hτ h hR fun S' a' w' hS hR'=>hK' _ _ (ih S' a' w' hS hR')
end
section
variable {P : Program} {τ : Tys} {Im Im' : Nat -> Nat -> Prop} {ρ ρ' ρ2 : Rho} {h h' : Array Obj} {w w' : World}
variable {w0 : World} {G : GP} {Im0 : Nat -> Nat -> Prop} {S : AState} {a : Act} {n : Nat} {tm : Nat -> AV} {blk : Nat -> Option Blk}
variable [hT : Nonempty (TabH w0.heap Im0)]
theorem RepT.one {d : Dat} {v : Value} {F : Nat -> Prop} (hr : RepT h d v F) : v.oneCell' = true := by cases hr <;> rfl
def SubOk (B : Blk) (κ' : K) (l : List κ'.T) : Prop := (∃ T,B = .row T κ' l false /\ κ'.flatS = true) \/ ∃ T,B = .tree T κ' l
theorem SubOk.pin {B : Blk} {κ' : K} {l : List κ'.T} (h : SubOk B κ' l) : B.pinned = 0 := by
 rcases h with ⟨T,rfl,_⟩|⟨T,rfl⟩ <;> rfl
theorem qcz (_hτ : d6 P τ) {o1 o2 o3 : Oper} {K : AState -> Prop} (h : eW P τ S o1 o2 o3 K) (_hR : Rel w0 G Im0 S ρ Im a w) {next : Act -> World -> Prop} {Q : Exit -> Act -> World -> Prop}
 (_hn : ∀ S' a' w',K S' -> o5 w0 G Im0 S' a' w' -> next a' w') :
 (o1.guard = none /\ o2.guard = none /\ o3.guard = none) /\ o1.wp P a w (fun a w=>o2.wp P a w (fun a w=>o3.wp P a w next Q) Q) Q := by
 have _hT := hT
 unfold eW at h
 exact h.elim
theorem lY (hτ : d6 P τ) {ops : Array Oper} {Q : Exit -> Act -> World -> Prop} : ∀ (l : List Oper) (S : AState) (K : AState -> Prop) (a : Act) (w : World),yF P τ ops l S K -> o5 w0 G Im0 S a w ->
 (∀ S' a' w',K S' -> o5 w0 G Im0 S' a' w' -> Q .normal a' w') -> wpList P ops Q l a w
 | [],S,K,a,w,h,hR,hn=>hn S a w h hR
 | [o],S,K,a,w,h,hR,hn=>kY hτ [o] S K a w h hR hn
 | [o,o'],S,K,a,w,h,hR,hn=>kY hτ [o,o'] S K a w h hR hn
 | o1 :: o2 :: o3 :: rest,S,K,a,w,h,⟨ρ,Im,hR⟩,hn=>by
  unfold yF at h
  have ih := fun S a w h hR=>lY hτ (ops := ops) (Q := Q) rest S K a w h hR hn
  have ih2 := fun S a w h hR=>lY hτ (ops := ops) (Q := Q) (o2 :: o3 :: rest) S K a w h hR hn
  cases hm : iL τ S o1 with
  | false =>
   simp only [hm] at h
   exact wpList_step fun K' hK'=>sS hτ h hR fun S' a' w' hS hR'=>hK' _ _ (ih2 S' a' w' hS hR')
  | true =>
   simp only [hm] at h
   refine wpList_step fun K1 hK1=>?_
   obtain ⟨⟨g1,g2,g3⟩,_⟩ := qcz (next := fun _ _=>True) (Q := Q) hτ h hR (fun _ _ _ _ _=>trivial)
   have w1 : Region.wanted o1 (yielded ops a.tmps) = true := by simp [Region.wanted,g1]
   rw [if_pos w1]
   have := (qcz (next := fun a w=>wpList P ops Q rest a w) (Q := Q) hτ h hR (fun S' a' w' hS hR'=>ih S' a' w' hS hR')).2
   refine Oper.wp_mono (fun a2 w2 h2=>hK1 a2 w2 (wpList_step fun K2 hK2=>?_)) this
   rw [if_pos (by simp [Region.wanted,g2])]
   refine Oper.wp_mono (fun a3 w3 h3=>hK2 a3 w3 (wpList_step fun K3 hK3=>?_)) h2
   rw [if_pos (by simp [Region.wanted,g3])]
   exact Oper.wp_mono (fun a4 w4 h4=>hK3 a4 w4 h4) h3
end
end Vg
