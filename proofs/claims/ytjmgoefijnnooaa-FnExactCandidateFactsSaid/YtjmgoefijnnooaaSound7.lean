/- Operations that only compute: the whole list. -/
import Derived.Test.YtjmgoefijnnooaaSound6
namespace Vg
open Go

section
variable {P : Program} {τ : Tys} {Im Im' : Nat → Nat → Prop} {ρ ρ' : Rho} {h h' : Array Obj} {w w' : World}
variable {w0 : World} {G : GP} {Im0 : Nat → Nat → Prop} {S : AState} {a : Act}

/-- what is asked behind an operation that only computes -/
def After (P : Program) (w0 : World) (G : GP) (Im0 : Nat → Nat → Prop) (S : AState) (ρ : Rho) (a : Act) (w : World) (o : Oper) (av : AV) : Prop :=
  ∀ (next : Act → World → Prop) (Q : Exit → Act → World → Prop),
    (∀ v w' Im', Rel w0 G Im0 S ρ Im' a w' → AVR ρ w'.heap Im' av v → next (a.put o.dst v) w') → o.wp P a w next Q

theorem After.of_run (hR : Rel w0 G Im0 S ρ Im a w) {o : Oper} {av : AV} {v : Value} (hr : (execOp a.eval o).run P w = .ok (.value v) w) (hv : AVR ρ w.heap Im av v) :
    After P w0 G Im0 S ρ a w o av := fun next Q hn => by
  unfold Oper.wp; rw [hr]; exact hn v w Im hR hv

theorem pcall_sound (hR : Rel w0 G Im0 S ρ Im a w) {o : Oper} {f : Operand} {args : Array Operand} {ts : Array Nat} {g : Nat} {K : AV → Prop}
    (ho : o.op = .call { callee := .value f, args := args, argTypes := ts }) (hf : ev S f = .fn g [])
    (h : pcall P τ S.blk g ts.toList (args.toList.map (ev S)) K) :
    ∃ av, K av ∧ pcall P τ S.blk g ts.toList (args.toList.map (ev S)) (· = av) ∧ After P w0 G Im0 S ρ a w o av := by
  unfold pcall at h ⊢
  cases hA : argsP τ S.blk ts.toList (args.toList.map (ev S)) with
  | none => simp [hA] at h
  | some x =>
    obtain ⟨as, brw⟩ := x
    simp only [hA] at h ⊢
    obtain ⟨X, hX, hb, hK⟩ := h
    refine ⟨X, hK, ⟨X, hX, hb, rfl⟩, fun next Q hn => ?_⟩
    obtain ⟨⟨fn, h1, h2, h3⟩, hcall⟩ := hX
    have hfv : a.eval f = .func (.func g) #[] #[] := by
      have := ev_rel hR f
      rw [hf] at this
      generalize a.eval f = u at this ⊢
      cases this with
      | fn _ _ cs cf hl _ _ =>
        have : cs = #[] := by apply Array.eq_empty_of_size_eq_zero; simpa using hl
        rw [this]
    unfold Oper.wp
    rw [run_call ho hfv h1 h2 h3]
    simp only [Oper.upon]
    obtain ⟨hlen, hargs⟩ := argsP_sound hR.env ts.toList _ as brw (fun j => (args.map a.eval).getD j undef) hA (fun j x hx => by
      rw [List.getElem?_map] at hx
      cases hj : args.toList[j]? with
      | none => simp [hj] at hx
      | some y =>
        simp [hj] at hx; subst hx
        have : args[j]? = some y := by simpa using hj
        simp [this]
        exact ev_rel hR y)
    refine (hcall w (lent S.blk ρ Im brw) (args.map a.eval) (by simp [hlen]) hargs (fun b o hI => lent_lt hR.env brw hI)).mono ?_
    rintro e w' ⟨v, res, B', ρ', Im', rfl, ⟨rfl, rfl⟩, hv, E', X'⟩
    simp only
    have hnew : ∀ b o, Im' b o → im0Of (lent S.blk ρ Im brw) res.flat b o ∨ (w.heap.size ≤ b ∧ b < w'.heap.size) := fun b o hI => by
      rcases X'.imNew b o hI with h4 | h4 | h4
      · exact .inl h4
      · exact h4.elim
      · exact .inr ⟨h4, E'.imlt b o hI⟩
    have hfr : ∀ b, b < w.heap.size → w'.heap[b]? = w.heap[b]? := fun b hb => X'.frame b hb (fun h => h)
    cases hfl : res.flat with
    | true =>
      exact hn v w' Im (hR.after hfr X'.grow X'.os X'.tape X'.output (fun _ _ x => x) (fun _ _ x => .inl x)) (hv.flat hfl)
    | false =>
      have hbf : brw = false := by
        cases brw with
        | false => rfl
        | true => simp [hfl] at hb
      subst hbf
      simp only at hb
      simp only [hfl, im0Of, lent] at hnew
      have him0 := X'.im0
      simp only [hfl, im0Of, lent] at him0
      have hv2 : AVR ρ w'.heap Im' res v := hv.noid (by simpa using hb)
      exact hn v w' Im' (hR.after hfr X'.grow X'.os X'.tape X'.output him0 hnew) hv2

theorem getD_lt {s : ByteArray} {n : Nat} (hn : n < s.size) : s[n]? = some (s.data.toList.getD n 0) := by
  have : n < s.data.toList.length := by simpa using hn
  rw [List.getD_eq_getElem?_getD, List.getElem?_eq_getElem this]
  simp [hn]; rfl

/-- an operation that computes without a call: it yields a value, the world stays -/
def Ran (P : Program) (ρ : Rho) (Im : Nat → Nat → Prop) (a : Act) (w : World) (o : Oper) (av : AV) : Prop :=
  ∃ v, (execOp a.eval o).run P w = .ok (.value v) w ∧ AVR ρ w.heap Im av v
theorem Ran.of {o : Oper} {av : AV} {v : Value} (hr : (execOp a.eval o).run P w = .ok (.value v) w) (hv : AVR ρ w.heap Im av v) : Ran P ρ Im a w o av := ⟨v, hr, hv⟩
theorem pval_run (hτ : TysOk P τ) (hR : Rel w0 G Im0 S ρ Im a w) {o : Oper} {K : AV → Prop} (hnc : noCallB o.op = true) (h : pval P τ (ev S) S.blk o.op K) :
    ∃ av, K av ∧ pval P τ (ev S) S.blk o.op (· = av) ∧ Ran P ρ Im a w o av := by
  have hE := ev_rel hR
  cases hop : o.op <;> simp only [hop, pval] at h ⊢ <;> try exact h.elim
  case move x => exact ⟨_, h, rfl, Ran.of (by simp [execOp, hop]) (hE x)⟩
  case assign x => exact ⟨_, h, rfl, Ran.of (by simp [execOp, hop]) (hE x)⟩
  case pick c x y =>
    have hc := hE c
    split at h
    · rename_i e
      rw [e] at hc
      have := dat_bool hc
      exact ⟨_, h, rfl, Ran.of (by simp [execOp, hop, this, asBool]) (hE x)⟩
    · rename_i e
      rw [e] at hc
      have := dat_bool hc
      exact ⟨_, h, rfl, Ran.of (by simp [execOp, hop, this, asBool]) (hE y)⟩
    · exact h.elim
  case load T p =>
    cases hT : τ T with
    | none => simp [hT] at h
    | some i =>
      simp only [hT] at h ⊢
      obtain ⟨av, h1, h2, u, h3, h4⟩ := aload_sound (hτ T i hT) hR.env (hE p) h
      exact ⟨av, h1, h2, Ran.of (by simp [execOp, hop, h3]) h4⟩
  case nilCheck x =>
    have hx := hE x
    split at h <;> rename_i e <;> first | exact h.elim | skip
    all_goals
      rw [e] at hx
      refine ⟨_, h, rfl, ?_⟩
      generalize hv : a.eval x = v at hx
      cases hx
      exact Ran.of (by simp [execOp, hop, hv]; rfl) (by first | exact .ptr _ _ _ (by assumption) | exact .eptr _ _ _ _ _ _ (by assumption) (by assumption) (by assumption) | exact .rptr _ _ _ _ _ (by assumption))
  case binOp op T x y U =>
    obtain ⟨av, h1, h2, u, h3, h4⟩ := abin_sound hτ (x := x) (y := y) (hE x) (hE y) h
    exact ⟨av, h1, h2, Ran.of (by simp only [execOp, hop, Sem.run_bind] at h3 ⊢; rw [h3]; rfl) h4⟩
  case unOp op T x =>
    obtain ⟨av, h1, h2, u, h3, h4⟩ := aun_sound (P := P) (hE x) h
    exact ⟨av, h1, h2, Ran.of (by simp [execOp, hop, h3]) h4⟩
  case convert s d x =>
    obtain ⟨av, h1, h2, u, h3, h4⟩ := aconv_sound hτ (hE x) h
    exact ⟨av, h1, h2, Ran.of (by simp [execOp, hop, h3]) h4⟩
  case fieldAddr T x f =>
    cases hT : τ T with
    | none => simp [hT] at h
    | some i =>
      simp only [hT] at h ⊢
      cases hd : i.desc <;> simp only [hd] at h ⊢ <;> try exact h.elim
      rename_i l
      cases hf : l[f]? with
      | none => simp [hf] at h
      | some ot =>
        obtain ⟨off, E⟩ := ot
        simp only [hf] at h ⊢
        have hx := hE x
        split at h <;> rename_i e <;> first | exact h.elim | skip
        all_goals
          rw [e] at hx
          refine ⟨_, h, rfl, ?_⟩
          generalize hv : a.eval x = v at hx
          cases hx
          refine Ran.of (v := .pointer (some _)) (by simp only [execOp, hop, hv, Sem.run_bind]; rw [run_fieldAt (hτ T i hT) hd hf]; rfl) ?_
          first
            | exact .ptr _ _ _ (by assumption)
            | (rw [Nat.add_assoc]; exact .eptr _ _ _ _ _ _ (by assumption) (by assumption) (by assumption))
            | (rw [Nat.add_assoc]; exact .rptr _ _ _ _ _ (by assumption))
  case indexAddr T x ix =>
    cases hT : τ T with
    | none => simp [hT] at h
    | some i =>
      simp only [hT] at h ⊢
      cases hd : i.desc <;> simp only [hd] at h ⊢ <;> try exact h.elim
      rename_i E κ'
      cases hTE : τ E with
      | none => simp [hTE] at h
      | some ie =>
        simp only [hTE] at h ⊢
        have hx := hE x
        have hix := hE ix
        split at h <;> rename_i e <;> first | exact h.elim | skip
        rename_i k n
        rw [e] at hix
        have hiv := dat_int hix
        split at h <;> rename_i e2 <;> first | exact h.elim | skip
        · rename_i κ l
          rw [e2] at hx
          cases hs : Nat.beq ie.size κ.sz with
          | false => simp [hs] at h
          | true =>
            simp only [hs] at h ⊢
            obtain ⟨r, h3, h4⟩ := indexAddr_dat (k := k) hτ hT hd hTE (Nat.eq_of_beq_eq_true hs) hx h.1.1 h.1.2
            exact ⟨_, h.2, ⟨h.1, rfl⟩, Ran.of (by simp [execOp, hop, hiv, h3]) h4⟩
        · rename_i id
          rw [e2] at hx
          cases hB : S.blk id with
          | none => simp [hB] at h
          | some blk =>
            simp only [hB] at h ⊢
            cases blk with
            | box => exact h.elim
            | row T' κ l sh =>
              simp only at h ⊢
              cases hs : Nat.beq ie.size κ.sz with
              | false => simp [hs] at h
              | true =>
                simp only [hs] at h ⊢
                obtain ⟨r, h3, h4⟩ := indexAddr_row (k := k) hτ hR.env hT hd hTE (Nat.eq_of_beq_eq_true hs) hB hx h.1.1 h.1.2
                exact ⟨_, h.2, ⟨h.1, rfl⟩, Ran.of (by simp [execOp, hop, hiv, h3]) h4⟩
            | tree T' κ l =>
              simp only at h ⊢
              cases hs : Nat.beq ie.size κ.sz with
              | false => simp [hs] at h
              | true =>
                simp only [hs] at h ⊢
                obtain ⟨r, h3, h4⟩ := indexAddr_tree (k := k) hτ hR.env hT hd hTE (Nat.eq_of_beq_eq_true hs) hB hx h.1.1 h.1.2
                exact ⟨_, h.2, ⟨h.1, rfl⟩, Ran.of (by simp [execOp, hop, hiv, h3]) h4⟩
  case index T x ix =>
    cases hT : τ T with
    | none => simp [hT] at h
    | some i =>
      simp only [hT] at h ⊢
      obtain ⟨d, hdd, _, hdesc⟩ := (hτ T i hT).und
      cases hd : i.desc <;> simp only [hd] at h hdesc ⊢ <;> try exact h.elim
      subst hdesc
      have hx := hE x
      have hix := hE ix
      split at h <;> rename_i e <;> first | exact h.elim | skip
      rename_i k n
      rw [e] at hix
      have hiv := dat_int hix
      split at h <;> rename_i e2 <;> first | exact h.elim | skip
      rename_i s
      rw [e2] at hx
      have hsv := dat_str hx
      have hn : n.toNat < s.size := by omega
      refine ⟨_, h.2, ⟨h.1, rfl⟩, Ran.of (v := .int .u8 (s.data.toList.getD n.toNat 0).toNat) ?_ (mk_int _ _ _)⟩
      simp only [execOp, hop, hiv, hsv, Instr.index, asIntOf, Sem.run_bind, Sem.run_pure, Result.andThen_ok, run_und hdd, h.1.1, if_true, getD_lt hn]
  case extract t ix =>
    have ht := hE t
    split at h <;> rename_i e <;> first | exact h.elim | skip
    rename_i l
    rw [e] at ht
    cases hl : l[ix]? with
    | none => simp [hl] at h
    | some v =>
      simp only [hl] at h ⊢
      refine ⟨_, h, rfl, ?_⟩
      generalize hv : a.eval t = u at ht
      cases ht with
      | tup _ cs cf hsz hcf hr =>
        have := hcf ix (List.getElem?_eq_some_iff.1 hl).1
        exact Ran.of (by simp [execOp, hop, hv, Instr.extract, this]) (hr ix v hl)
  case build T parts =>
    cases hT : τ T with
    | none => simp [hT] at h
    | some i =>
      simp only [hT] at h ⊢
      obtain ⟨d, hdd, _, hdesc⟩ := (hτ T i hT).und
      cases hd : i.desc <;> simp only [hd] at h hdesc ⊢ <;> try exact h.elim
      rename_i l
      obtain ⟨fs, rfl, hfs, hall⟩ := hdesc
      obtain ⟨x, z, hx, hxs, _, hxz, hzc⟩ := (hτ T i hT).info
      have hpl : fs.toList.mapM (fun f => (P.info? f.type).map fun i => (f.offset, i.size)) = some (fs.toList.map fun f => (f.offset, P.cellsOf f.type)) := by
        have : ∀ (L : List Field), (∀ f ∈ L, ∃ x, P.info? f.type = some x) → L.mapM (fun f => (P.info? f.type).map fun i => (f.offset, i.size)) = some (L.map fun f => (f.offset, P.cellsOf f.type)) := by
          intro L
          induction L with
          | nil => intro _; rfl
          | cons f L ih =>
            intro hL
            obtain ⟨y, hy⟩ := hL f (by simp)
            rw [List.mapM_cons, ih (fun g hg => hL g (by simp [hg]))]
            simp [hy, Program.cellsOf]
        refine this _ (fun f hf => ?_)
        obtain ⟨j, hj⟩ := List.getElem?_of_mem hf
        have hjl : j < l.length := by have := (List.getElem?_eq_some_iff.1 hj).1; simp at this; omega
        obtain ⟨fd, h1, _, h3, y, hy, _⟩ := hall j _ _ (show l[j]? = some ((l[j]).1, (l[j]).2) from List.getElem?_eq_getElem hjl)
        rw [Array.getElem?_toList] at hj
        rw [hj] at h1; cases h1
        exact ⟨y, h3 ▸ hy⟩
      have hplace : ∀ (f off E : Nat) (ie : TyI), l[f]? = some (off, E) → τ E = some ie → ((fs.toList.map fun f => (f.offset, P.cellsOf f.type)).toArray[·]?) f = some (off, ie.size) := by
        intro f off E ie hf hE'
        obtain ⟨fd, h1, h2, h3, y, hy, _⟩ := hall f off E hf
        obtain ⟨y', _, hy', hs', _⟩ := (hτ E ie hE').info
        simp [h1, h2, h3, Program.cellsOf, hy', hs']
      obtain ⟨out, hK, hK', os, hfill, hcells⟩ := abuild_sound hτ hE hplace parts.toList _ _ _ (zero_cells (ρ := ρ) (Im := Im) (i := i) w.heap) h
      refine ⟨_, hK, hK' _ rfl, Ran.of (v := .agg os) ?_ hcells.agg⟩
      have hb : P.built T (parts.map fun x => (x.1, a.eval x.2)).toList = some os := by
        unfold Program.built
        simp only [hx, hdd, hxz, hpl, hzc, Array.toList_map]
        exact hfill
      have := run_build w T _ os hb
      simp only [execOp, hop, Sem.run_bind]
      rw [this]; rfl
  case slice T x lo hi mx =>
    cases mx with
    | some m => exact h.elim
    | none =>
      simp only at h ⊢
      obtain ⟨av, h1, h2, u, h3, h4⟩ := aslice_sound (vlo := lo.map a.eval) (vhi := hi.map a.eval) hτ (hE x)
        (by cases lo with | none => exact .inl ⟨rfl, rfl⟩ | some y => exact .inr ⟨_, _, rfl, rfl, hE y⟩)
        (by cases hi with | none => exact .inl ⟨rfl, rfl⟩ | some y => exact .inr ⟨_, _, rfl, rfl, hE y⟩) h
      exact ⟨av, h1, h2, Ran.of (by simp only [execOp, hop, Sem.run_bind, Option.map_none]; rw [h3]; rfl) h4⟩
  case call c =>
    obtain ⟨callee, args, ts⟩ := c
    cases callee with
    | value f => rw [hop] at hnc; cases hnc
    | invoke => exact h.elim
    | builtin b =>
      cases b <;> simp only at h ⊢ <;> try exact h.elim
      case len =>
        split at h <;> rename_i e1 e2 <;> first | exact h.elim | skip
        rename_i x T
        obtain ⟨av, h1, h2, u, h3, h4⟩ := alen_sound hτ hR.env (hE x) h
        have e1' : args = #[x] := by cases args; simpa using e1
        have e2' : ts = #[T] := by cases ts; simpa using e2
        subst e1' e2'
        refine ⟨av, h1, h2, Ran.of (v := u) ?_ h4⟩
        have h3' : (Builtin.len_ #[T] o.type #[a.eval x]).run P w = .ok u w := h3
        simp [execOp, hop, resolve, invoke, builtin, h3']
      case min =>
        split at h <;> rename_i e1 <;> first | exact h.elim | skip
        rename_i x y
        have hx := hE x
        have hy := hE y
        split at h <;> first | exact h.elim | skip
        rename_i k m k' m' ex ey
        rw [ex] at hx
        rw [ey] at hy
        have hx' := dat_int hx
        have hy' := dat_int hy
        have e1' : args = #[x, y] := by cases args; simpa using e1
        subst e1'
        refine ⟨_, h, by simp [ex, ey], Ran.of (v := .int k (if m' < m then m' else m)) ?_ (mk_int _ _ _)⟩
        simp [execOp, hop, resolve, invoke, builtin, hx', hy', Builtin.min_, Builtin.min2]

theorem pval_sound (hτ : TysOk P τ) (hR : Rel w0 G Im0 S ρ Im a w) {o : Oper} {K : AV → Prop} (h : pval P τ (ev S) S.blk o.op K) :
    ∃ av, K av ∧ pval P τ (ev S) S.blk o.op (· = av) ∧ After P w0 G Im0 S ρ a w o av := by
  cases hnc : noCallB o.op with
  | true =>
    obtain ⟨av, h1, h2, v, h3, h4⟩ := pval_run hτ hR hnc h
    exact ⟨av, h1, h2, After.of_run hR h3 h4⟩
  | false =>
    cases hop : o.op <;> rw [hop] at hnc
    case call c =>
      obtain ⟨callee, args, ts⟩ := c
      cases callee with
      | value f =>
        simp only [hop, pval] at h ⊢
        split at h <;> rename_i e <;> first | exact h.elim | skip
        exact pcall_sound hR hop e h
      | invoke => exact absurd hnc (by simp [noCallB])
      | builtin b => exact absurd hnc (by simp [noCallB])
    all_goals exact absurd hnc (by simp [noCallB])

end
end Vg
