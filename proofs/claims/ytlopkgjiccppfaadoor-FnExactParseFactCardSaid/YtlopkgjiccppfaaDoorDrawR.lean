/- A region whose operations turn memory before the order is settled: what only computes may come early or late. No condition. -/
import Derived.Test.YtlopkgjiccppfaaDoorDrawS
namespace Vg
open Go

section
variable {P : Program} {τ : Tys} {Im Im' : Nat → Nat → Prop} {ρ ρ' ρ2 : Rho} {h h' : Array Obj} {w w' : World}
variable {w0 : World} {G : GP} {Im0 : Nat → Nat → Prop} {S : AState} {a b : Act} {n : Nat} {tm tm' : Nat → AV} {blk : Nat → Option Blk} {ops : Array Oper}

theorem forceN_eq (x : Nat) (K : Nat → Prop) : forceN x K = K x := by cases x <;> rfl

/-! ### two frames that differ in some slots -/
def Agree (D : Nat → Prop) (a b : Act) : Prop := a.defers = b.defers ∧ a.tmps.size = b.tmps.size ∧ ∀ t, ¬ D t → a.tmps.getD t undef = b.tmps.getD t undef

theorem Agree.weak {D D' : Nat → Prop} (h : Agree D a b) (hD : ∀ t, D t → D' t) : Agree D' a b := ⟨h.1, h.2.1, fun t ht => h.2.2 t fun x => ht (hD t x)⟩
theorem Agree.trans {D D' : Nat → Prop} {c : Act} (h : Agree D a b) (h' : Agree D' b c) : Agree (fun t => D t ∨ D' t) a c :=
  ⟨h.1.trans h'.1, h.2.1.trans h'.2.1, fun t ht => (h.2.2 t fun x => ht (.inl x)).trans (h'.2.2 t fun x => ht (.inr x))⟩
theorem getD_put {a : Act} {d t : Nat} {v : Value} : (a.put (some d) v).tmps.getD t undef = if t = d ∧ d < a.tmps.size then v else a.tmps.getD t undef := by
  simp only [Act.put, Array.getD_eq_getD_getElem?]
  by_cases e : t = d
  · subst e
    by_cases hl : t < a.tmps.size
    · rw [Array.getElem?_setIfInBounds_self_of_lt hl, if_pos ⟨rfl, hl⟩]; rfl
    · rw [if_neg (by simp [hl])]
      simp [Array.setIfInBounds, hl]
  · rw [Array.getElem?_setIfInBounds_ne (fun e' => e e'.symm), if_neg (by simp [e])]
theorem Agree.put {D : Nat → Prop} (h : Agree D a b) (dst : Option Nat) (v : Value) : Agree D (a.put dst v) (b.put dst v) := by
  cases dst with
  | none => exact h
  | some d =>
    refine ⟨h.1, by simpa [Act.put] using h.2.1, fun t ht => ?_⟩
    rw [getD_put, getD_put, h.2.1, h.2.2 t ht]
theorem Agree.putD {D : Nat → Prop} {d : Nat} (h : Agree D a b) (hd : d < b.tmps.size) (v : Value) : Agree (fun t => D t ∧ t ≠ d) (a.put (some d) v) (b.put (some d) v) := by
  refine ⟨h.1, by simpa [Act.put] using h.2.1, fun t ht => ?_⟩
  rw [getD_put, getD_put, h.2.1]
  by_cases e : t = d
  · subst e; rw [if_pos ⟨rfl, hd⟩, if_pos ⟨rfl, hd⟩]
  · rw [if_neg (fun x => e x.1), if_neg (fun x => e x.1)]
    exact h.2.2 t fun x => ht ⟨x, e⟩
theorem Agree.eq (h : Agree (fun _ => False) a b) : a = b := by
  obtain ⟨ta, da⟩ := a
  obtain ⟨tb, db⟩ := b
  obtain ⟨h1, h2, h3⟩ := h
  simp only at h1 h2 h3
  subst h1
  congr 1
  refine Array.ext h2 fun i hi hj => ?_
  have := h3 i (fun x => x)
  simpa [Array.getD_eq_getD_getElem?, hi, hj] using this

theorem Agree.eval {D : Nat → Prop} {o : Oper} (h : Agree D a b) (hl : ∀ t ∈ o.looksAt ops, ¬ D t) : ∀ x ∈ o.op.operands, a.eval x = b.eval x := fun x hx => by
  cases x with
  | tmp t => exact h.2.2 t (hl t (looks_op hx rfl))
  | _ => rfl
theorem Agree.exec {D : Nat → Prop} {o : Oper} (h : Agree D a b) (hs : ∀ cs x, o.op ≠ .select cs x) (hl : ∀ t ∈ o.looksAt ops, ¬ D t) : execOp a.eval o = execOp b.eval o :=
  execOp_congr o hs (h.eval hl)
theorem Agree.wanted {D : Nat → Prop} {o : Oper} (h : Agree D a b) (hl : ∀ t ∈ o.looksAt ops, ¬ D t) : Region.wanted o (yielded ops a.tmps) = Region.wanted o (yielded ops b.tmps) := by
  unfold Region.wanted
  cases hg : o.guard with
  | none => rfl
  | some gw =>
    obtain ⟨g, want⟩ := gw
    have hy : yielded ops a.tmps g = yielded ops b.tmps g := by
      unfold yielded
      cases ht : (ops[g]?).bind (·.dst) with
      | none => rfl
      | some t =>
        have := h.2.2 t (hl t (List.mem_append_right _ (by simp [hg, ht])))
        have hsz := h.2.1
        simp only [Option.bind_some]
        by_cases hlt : t < a.tmps.size
        · have hlt' : t < b.tmps.size := hsz ▸ hlt
          simp [Array.getD_eq_getD_getElem?, hlt, hlt'] at this
          simp [hlt, hlt', this]
        · have hlt' : ¬ t < b.tmps.size := hsz ▸ hlt
          simp [hlt, hlt']
    simp only [hy]

theorem wp_agree {D : Nat → Prop} {o : Oper} (hab : Agree D a b) (hs : ∀ cs x, o.op ≠ .select cs x) (hl : ∀ t ∈ o.looksAt ops, ¬ D t) {K K' : Act → World → Prop} {Q : Exit → Act → World → Prop}
    (h : o.wp P b w K' (fun _ _ _ => False)) (hK : ∀ a' b' w', Agree D a' b' → K' b' w' → K a' w') : o.wp P a w K Q := by
  unfold Oper.wp at h ⊢
  rw [hab.exec hs hl]
  generalize (execOp b.eval o).run P w = r at h ⊢
  cases r with
  | ok n w' =>
    cases n <;> simp only [Oper.upon] at h ⊢
    case value u => exact hK _ _ _ (hab.put _ _) h
    case skip => exact hK _ _ _ (hab.put _ _) h
    case defer d => exact hK _ _ _ (Agree.put (a := { a with defers := d :: a.defers }) (b := { b with defers := d :: b.defers }) ⟨by simp [hab.1], hab.2.1, hab.2.2⟩ _ _) h
    case enter f args =>
      refine Calls.mono h fun e w'' he => ?_
      cases e with
      | returned u => exact hK _ _ _ (hab.put _ _) he
      | panicked c => exact he.elim
      | outgrown => obtain ⟨_, _, h⟩ := he; exact h.elim
    case row row args => exact Rows.mono h fun u w'' he => hK _ _ _ (hab.put _ _) he
  | halt x w' =>
    cases x <;> simp only [Oper.upon] at h ⊢ <;> exact h.elim

/-! ### an operation that computes -/
theorem OpOk.congr {o : Oper} {v : AV} (h : OpOk P τ ops n blk o tm v) (hl : ∀ t ∈ o.looksAt ops, tm' t = tm t) : OpOk P τ ops n blk o tm' v := by
  have hev : ∀ x ∈ o.op.operands, ev ⟨n, tm, blk⟩ x = ev ⟨n, tm', blk⟩ x := fun x hx => by
    cases x with
    | tmp t => exact (hl t (looks_op hx rfl)).symm
    | _ => rfl
  unfold OpOk at h ⊢
  cases hg : o.guard with
  | none => simp only [hg] at h ⊢; rwa [← pvalD_congr hev]
  | some gw =>
    obtain ⟨g, want⟩ := gw
    simp only [hg] at h ⊢
    obtain ⟨t, ht, h⟩ := h
    have e := hl t (List.mem_append_right _ (by simp [hg, ht]))
    refine ⟨t, ht, ?_⟩
    rw [e]
    rcases h with ⟨c, h1, h2, h3⟩ | h
    · exact .inl ⟨c, h1, fun hc => by rw [← pvalD_congr hev]; exact h2 hc, h3⟩
    · exact .inr h

theorem OpOk.run (hτ : TysOk P τ) (hR : Rel w0 G Im0 ⟨n, tm, blk⟩ ρ Im b w) {o : Oper} {v : AV} (h : OpOk P τ ops n blk o tm v) (hnc : noCallB o.op = true) :
    ∃ u, AVR ρ w.heap Im v u ∧ ((Region.wanted o (yielded ops b.tmps) = true ∧ (execOp b.eval o).run P w = .ok (.value u) w) ∨ (Region.wanted o (yielded ops b.tmps) = false ∧ u = undef)) := by
  unfold OpOk at h
  have go : pvalD P τ (ev ⟨n, tm, blk⟩) blk o.op (· = v) → ∃ u, AVR ρ w.heap Im v u ∧ (execOp b.eval o).run P w = .ok (.value u) w := fun h => by
    obtain ⟨av, e, _, u, h3, h4⟩ := pval_run (S := ⟨n, tm, blk⟩) hτ hR hnc (pval_of_D h)
    subst e
    exact ⟨u, h4, h3⟩
  cases hg : o.guard with
  | none =>
    simp only [hg] at h
    obtain ⟨u, h1, h2⟩ := go h
    exact ⟨u, h1, .inl ⟨by simp [Region.wanted, hg], h2⟩⟩
  | some gw =>
    obtain ⟨g, want⟩ := gw
    simp only [hg] at h
    obtain ⟨t, ht, ⟨c, hc, h1, h2⟩ | ⟨hc, hv⟩⟩ := h
    · have hw := wanted_of (S := ⟨n, tm, blk⟩) hg ht hR hc
      by_cases e : c = want
      · obtain ⟨u, h3, h4⟩ := go (h1 e)
        exact ⟨u, h3, .inl ⟨by rw [hw]; simp [e], h4⟩⟩
      · rw [h2 e]
        exact ⟨undef, undR, .inr ⟨by rw [hw]; simp [e], rfl⟩⟩
    · rw [hv]
      exact ⟨undef, undR, .inr ⟨wanted_und (S := ⟨n, tm, blk⟩) hg ht hR hc, rfl⟩⟩

theorem pre1 {o : Oper} {d : Nat} {K : AState → Prop} (hd : o.dst = some d) (h : awpPre P τ ops [o] ⟨n, tm, blk⟩ K) : ∃ v, OpOk P τ ops n blk o tm v ∧ d < n ∧ K ⟨n, updT tm d v, blk⟩ := by
  obtain ⟨vs, tm', hc, hK⟩ := awpPre_chain [o] tm K (fun x hx => by simp at hx; subst hx; simp [hd]) h
  cases vs with
  | nil => exact hc.elim
  | cons v vs =>
    obtain ⟨d', h1, h2, h3, h4⟩ := hc
    rw [hd] at h1; cases h1
    cases vs with
    | nil => rw [show tm' = updT tm d v from h4] at hK; exact ⟨v, h3, h2, hK⟩
    | cons => exact h4.elim

theorem again_spec {o : Oper} {K : Prop} (h : again P τ ops o ⟨n, tm, blk⟩ K) : (∃ d, o.dst = some d ∧ OpOk P τ ops n blk o tm (tm d)) ∧ K := by
  unfold again at h
  cases hd : o.dst with
  | none => simp [hd] at h
  | some d =>
    simp only [hd] at h
    have go : (pvalD P τ (ev ⟨n, tm, blk⟩) blk o.op fun v => force v fun v => force (tm d) fun u => v = u ∧ K) → pvalD P τ (ev ⟨n, tm, blk⟩) blk o.op (· = tm d) ∧ K := fun h => by
      obtain ⟨av, h1, h2⟩ := pvalD_ex h
      simp only [force_eq] at h1
      obtain ⟨rfl, hK⟩ := h1
      exact ⟨h2, hK⟩
    cases hg : o.guard with
    | none =>
      simp only [hg] at h
      obtain ⟨h1, hK⟩ := go h
      exact ⟨⟨d, rfl, by unfold OpOk; simp only [hg]; exact h1⟩, hK⟩
    | some gw =>
      obtain ⟨g, want⟩ := gw
      simp only [hg] at h
      cases ht : (ops[g]?).bind (·.dst) with
      | none => simp [ht] at h
      | some t =>
        simp only [ht] at h
        split at h
        · rename_i c hc
          cases he : c == want with
          | true =>
            simp only [he] at h
            obtain ⟨h1, hK⟩ := go h
            exact ⟨⟨d, rfl, by unfold OpOk; simp only [hg]; exact ⟨t, ht, .inl ⟨c, hc, fun _ => h1, fun e' => absurd (by simpa using he) e'⟩⟩⟩, hK⟩
          | false =>
            simp only [he, force_eq] at h
            exact ⟨⟨d, rfl, by unfold OpOk; simp only [hg]; exact ⟨t, ht, .inl ⟨c, hc, fun e' => by simp [e'] at he, fun _ => h.1⟩⟩⟩, h.2⟩
        · rename_i hc
          simp only [force_eq] at h
          exact ⟨⟨d, rfl, by unfold OpOk; simp only [hg]; exact ⟨t, ht, .inr ⟨hc, h.1⟩⟩⟩, h.2⟩
        · exact h.elim

theorem agains_spec {R done ar : Nat} {K : Prop} : ∀ (E : List Ent), agains P τ ops R done ar E ⟨n, tm, blk⟩ K →
    (∀ e ∈ E, e.p = true → enB R done e.a = true → Nat.testBit ar e.i = false → ∃ d, e.o.dst = some d ∧ OpOk P τ ops n blk e.o tm (tm d)) ∧ K
  | [], h => ⟨by simp, h⟩
  | e :: l, h => by
    simp only [agains] at h
    cases hb : (e.p && enB R done e.a && !Nat.testBit ar e.i) with
    | true =>
      simp only [hb] at h
      obtain ⟨h1, h2⟩ := again_spec h
      obtain ⟨h3, h4⟩ := agains_spec l h2
      refine ⟨fun x hx hp he ht => ?_, h4⟩
      rcases List.mem_cons.1 hx with rfl | hx
      · exact h1
      · exact h3 x hx hp he ht
    | false =>
      simp only [hb] at h
      obtain ⟨h3, h4⟩ := agains_spec l h
      refine ⟨fun x hx hp he ht => ?_, h4⟩
      rcases List.mem_cons.1 hx with rfl | hx
      · simp [hp, he, ht] at hb
      · exact h3 x hx hp he ht

/-! ### the plan -/
structure EntOk (τ : Tys) (ops : Array Oper) (E : List Ent) : Prop where
  len : E.length = ops.size
  at_ : ∀ (i : Nat) (e : Ent), E[i]? = some e → e.i = i ∧ ops[i]? = some e.o
  back : ∀ e ∈ E, ∀ k, e.a.testBit k = true → k < e.i
  anc : ∀ e ∈ E, ∀ (listed : Nat → Prop), (∀ i o, listed i → ops[i]? = some o → ∀ ed ∈ o.after, Region.binds .any ed = true → listed ed.on) →
    (∀ ed ∈ e.o.after, Region.binds .any ed = true → listed ed.on) → ∀ k, e.a.testBit k = true → listed k
  trans : ∀ e ∈ E, ∀ e' ∈ E, e.a.testBit e'.i = true → ∀ k, e'.a.testBit k = true → e.a.testBit k = true
  late : ∀ e ∈ E, e.p = true → lateB τ e.o.op = true ∧ ∃ d, e.o.dst = some d ∧ (∀ e' : Ent, e' ∈ E → e'.i ≠ e.i → e'.o.dst ≠ some d) ∧ ∀ e' : Ent, e' ∈ E → d ∈ e'.o.looksAt ops → e'.a.testBit e.i = true

theorem EntOk.mem {E : List Ent} (hE : EntOk τ ops E) {e : Ent} (he : e ∈ E) : E[e.i]? = some e ∧ ops[e.i]? = some e.o ∧ e.i < ops.size := by
  obtain ⟨i, hi⟩ := List.getElem?_of_mem he
  obtain ⟨h1, h2⟩ := hE.at_ i e hi
  subst h1
  exact ⟨hi, h2, (Array.getElem?_eq_some_iff.1 h2).1⟩
theorem EntOk.uniq {E : List Ent} (hE : EntOk τ ops E) {e e' : Ent} (he : e ∈ E) (he' : e' ∈ E) (hi : e.i = e'.i) : e = e' := by
  have h1 := (hE.mem he).1
  have h2 := (hE.mem he').1
  rw [hi, h2] at h1
  cases h1; rfl
theorem EntOk.get {E : List Ent} (hE : EntOk τ ops E) {i : Nat} {o : Oper} (ho : ops[i]? = some o) : ∃ e ∈ E, e.i = i ∧ e.o = o := by
  have hlt : i < E.length := by rw [hE.len]; exact (Array.getElem?_eq_some_iff.1 ho).1
  have hi : E[i]? = some E[i] := List.getElem?_eq_getElem hlt
  obtain ⟨h1, h2⟩ := hE.at_ i _ hi
  rw [ho] at h2; cases h2
  exact ⟨E[i], List.getElem_mem hlt, h1, rfl⟩

theorem enB_spec {R done a : Nat} : enB R done a = true ↔ ∀ k, a.testBit k = true → R.testBit k = true → done.testBit k = true := by
  unfold enB
  rw [show (Nat.beq (Nat.lor (Nat.land a R) done) done = true) ↔ ((a &&& R) ||| done = done) from ⟨fun h => Nat.eq_of_beq_eq_true h, fun h => by
    show Nat.beq ((a &&& R) ||| done) done = true
    rw [h]; exact Nat.beq_refl _⟩]
  constructor
  · intro h k h1 h2
    rw [← h]; simp [h1, h2]
  · intro h
    refine Nat.eq_of_testBit_eq fun k => ?_
    simp only [Nat.testBit_or, Nat.testBit_and]
    cases h1 : a.testBit k with
    | false => simp
    | true => cases h2 : R.testBit k with
      | false => simp
      | true => simp [h k h1 h2]

theorem maskR_spec : ∀ {E : List Ent} {k : Nat}, (maskR E).testBit k = true ↔ ∃ e ∈ E, e.p = false ∧ e.i = k
  | [], k => by simp [maskR]
  | e :: l, k => by
    simp only [maskR]
    cases hp : e.p with
    | true => simp [maskR_spec (E := l), hp]
    | false =>
      show (2 ^ e.i ||| maskR l).testBit k = true ↔ _
      rw [Nat.testBit_or, Nat.testBit_two_pow, Bool.or_eq_true, decide_eq_true_eq, maskR_spec (E := l)]
      simp [hp]

theorem lor_bit {done i k : Nat} : (Nat.lor done (2 ^ i)).testBit k = true ↔ done.testBit k = true ∨ i = k := by
  show (done ||| 2 ^ i).testBit k = true ↔ _
  rw [Nat.testBit_or, Nat.testBit_two_pow, Bool.or_eq_true, decide_eq_true_eq]

def NewB (R : Nat) (first : Bool) (done done' : Nat) (e : Ent) : Bool := e.p && enB R done' e.a && (first || !enB R done e.a)

theorem late_nc {op : Op} (h : lateB τ op = true) : noCallB op = true := by
  unfold lateB at h
  split at h
  · cases h
  · rw [Bool.and_eq_true] at h; exact h.2

theorem runP_spec [hT : Nonempty (TabH w0.heap Im0)] (hτ : TysOk P τ) {E : List Ent} (hE : EntOk τ ops E) {R done done' : Nat} {first : Bool} {K : AState → Prop} : ∀ (l : List Ent), (∀ e ∈ l, e ∈ E) → l.Pairwise (fun e e' : Ent => e.i < e'.i) → ∀ (tm : Nat → AV) (b : Act),
    runP P τ ops R first done done' l ⟨n, tm, blk⟩ K → RelE w0 G Im0 ⟨n, tm, blk⟩ b w →
    ∃ tm'' b'', K ⟨n, tm'', blk⟩ ∧ RelE w0 G Im0 ⟨n, tm'', blk⟩ b'' w ∧ (∀ t, (∀ e ∈ l, NewB R first done done' e = true → e.o.dst ≠ some t) → tm'' t = tm t) ∧
      Agree (fun t => ∃ e ∈ l, NewB R first done done' e = true ∧ e.o.dst = some t) b b'' ∧
      ∀ e ∈ l, NewB R first done done' e = true → ∃ d, e.o.dst = some d ∧ OpOk P τ ops n blk e.o tm'' (tm'' d)
  | [], _, _, tm, b, h, hR => ⟨tm, b, h, hR, fun _ _ => rfl, ⟨rfl, rfl, fun _ _ => rfl⟩, by simp⟩
  | e :: l, hl, hpw, tm, b, h, hR => by
    have heE := hl e (by simp)
    obtain ⟨hp1, hp2⟩ := List.pairwise_cons.1 hpw
    have ih := fun tm b h hR => runP_spec hτ hE (R := R) (done := done) (done' := done') (first := first) (K := K) l (fun x hx => hl x (by simp [hx])) hp2 tm b h hR
    simp only [runP] at h
    change (match NewB R first done done' e with | true => _ | false => _) at h
    cases hN : NewB R first done done' e with
    | false =>
      simp only [hN] at h
      obtain ⟨tm'', b'', h1, h2, h3, h4, h5⟩ := ih tm b h hR
      refine ⟨tm'', b'', h1, h2, fun t ht => h3 t fun x hx => ht x (by simp [hx]), h4.weak fun t ⟨x, hx, h⟩ => ⟨x, by simp [hx], h⟩, fun x hx hNx => ?_⟩
      rcases List.mem_cons.1 hx with rfl | hx
      · rw [hN] at hNx; cases hNx
      · exact h5 x hx hNx
    | true =>
      simp only [hN] at h
      have hp : e.p = true := by simp only [NewB, Bool.and_eq_true] at hN; exact hN.1.1
      obtain ⟨hlate, d, hd, hd1, hd2⟩ := hE.late e heE hp
      obtain ⟨v, hok, hdn, hK⟩ := pre1 hd h
      obtain ⟨ρ, Im, hR0⟩ := hR
      have hnc : noCallB e.o.op = true := late_nc hlate
      obtain ⟨u, hu, _⟩ := hok.run hτ hR0 hnc
      obtain ⟨tm'', b'', h1, h2, h3, h4, h5⟩ := ih _ _ hK ⟨ρ, Im, hR0.put hdn hu⟩
      have hfar : ∀ x ∈ l, x.o.dst ≠ some d := fun x hx => hd1 x (hl x (by simp [hx])) (by have := hp1 x hx; omega)
      have hsame : ∀ t ∈ e.o.looksAt ops, tm'' t = tm t := fun t ht => by
        have hne : t ≠ d := fun e' => by
          subst e'
          have := hE.back e heE _ (hd2 e heE ht)
          omega
        rw [h3 t (fun x hx hNx hxd => ?_), updT_ne _ hne]
        have hpx : x.p = true := by simp only [NewB, Bool.and_eq_true] at hNx; exact hNx.1.1
        have hxE := hl x (by simp [hx])
        obtain ⟨_, d2, h6, _, h7⟩ := hE.late x hxE hpx
        rw [hxd] at h6; cases h6
        have := hE.back e heE _ (h7 e heE ht)
        have := hp1 x hx
        omega
      have htd : tm'' d = v := by rw [h3 d (fun x hx _ => hfar x hx), updT_same]
      refine ⟨tm'', b'', h1, h2, fun t ht => ?_, ?_, fun x hx hNx => ?_⟩
      · rw [h3 t fun x hx => ht x (by simp [hx]), updT_ne _ (fun e' => ht e (by simp) hN (by rw [hd, e']))]
      · have hb : Agree (fun t => t = d) b (b.put (some d) u) := ⟨rfl, by simp [Act.put], fun t ht => by rw [getD_put, if_neg (fun x => ht x.1)]⟩
        refine (hb.trans h4).weak fun t ht => ?_
        rcases ht with rfl | ⟨x, hx, h⟩
        · exact ⟨e, by simp, hN, hd⟩
        · exact ⟨x, by simp [hx], h⟩
      · rcases List.mem_cons.1 hx with rfl | hx
        · exact ⟨d, hd, by rw [htd]; exact hok.congr hsame⟩
        · exact h5 x hx hNx

theorem readyR_mem {R done : Nat} {e : Ent} : ∀ {l : List Ent}, e ∈ l → e.p = false → done.testBit e.i = false → enB R done e.a = true → e ∈ readyR R done l
  | [], h, _, _, _ => by cases h
  | x :: l, h, hp, hb, he => by
    simp only [readyR]
    rcases List.mem_cons.1 h with rfl | h
    · simp [hp, hb, he]
    · have := readyR_mem h hp hb he
      split
      · exact List.mem_cons_of_mem _ this
      · exact this
theorem eachR_mem {rec : Ent → Prop} {e : Ent} : ∀ {l : List Ent}, eachR rec l → e ∈ l → rec e
  | [x], h, he => by simp at he; subst he; exact h
  | x :: y :: l, h, he => by
    rcases List.mem_cons.1 he with rfl | he
    · exact h.1
    · exact eachR_mem h.2 he

/-- the rest of a plan, in any order -/
theorem plan_sound [hT : Nonempty (TabH w0.heap Im0)] (hτ : TysOk P τ) {Q : Exit → Act → World → Prop} {K : AState → Prop} {E : List Ent} (hE : EntOk τ ops E) (hback : backAll ops.toList 0 = true) (hsel : noSelB ops.toList = true)
    (hn : ∀ S' a' w', K S' → RelE w0 G Im0 S' a' w' → Q .normal a' w') : ∀ (fuel : Nat) (listed : Array Bool) (a : Act) (w : World), listed.size = ops.size → toCome ops.size listed = fuel →
      (∀ (i : Nat) (o : Oper), i < ops.size → listed.getD i true = true → ops[i]? = some o → ∀ e ∈ o.after, Region.binds .any e = true → listed.getD e.on true = true) →
      (∃ (done f n : Nat) (tm : Nat → AV) (blk : Nat → Option Blk) (b : Act),
        (∀ e ∈ E, e.p = false → listed.getD e.i true = done.testBit e.i) ∧ (∀ k, done.testBit k = true → (maskR E).testBit k = true) ∧ RelE w0 G Im0 ⟨n, tm, blk⟩ b w ∧
        Agree (fun t => ∃ e ∈ E, e.p = true ∧ enB (maskR E) done e.a = true ∧ listed.getD e.i true = false ∧ e.o.dst = some t) a b ∧
        (∀ e ∈ E, e.p = true → enB (maskR E) done e.a = true → listed.getD e.i true = false → ∃ d, e.o.dst = some d ∧ OpOk P τ ops n blk e.o tm (tm d)) ∧
        awpR P τ ops E (maskR E) f done ⟨n, tm, blk⟩ K) →
      wpAny P .any ops Q fuel listed a w := by
  have hpw : E.Pairwise (fun e e' : Ent => e.i < e'.i) := by
    rw [List.pairwise_iff_getElem]
    intro i j hi hj hij
    have h1 := (hE.at_ i _ (List.getElem?_eq_getElem hi)).1
    have h2 := (hE.at_ j _ (List.getElem?_eq_getElem hj)).1
    omega
  have hbk : ∀ (i : Nat) (o : Oper), ops[i]? = some o → ∀ e ∈ o.after, Region.binds .any e = true → e.on < i := fun i o ho e he hb => by
    have := backAll_spec hback (i := i) (o := o) (by simpa using ho) e he hb
    omega
  have hselE : ∀ e ∈ E, ∀ cs x, e.o.op ≠ .select cs x := fun e he cs x hx => by
    have := noSelB_mem hsel e.o (List.mem_of_getElem? (i := e.i) (by simpa using (hE.mem he).2.1))
    rw [hx] at this; cases this
  intro fuel
  induction fuel with
  | zero =>
    intro listed a w hsz hcnt hcl ⟨done, f, n, tm, blk, b, hI1, hI2, hI3, hI4, hI5, hI6⟩
    have hall : ∀ k, k < ops.size → listed.getD k true = true := fun k hk => by
      have := List.countP_eq_zero.1 hcnt k (List.mem_range.2 hk)
      simpa using this
    have hnil : Region.ready .any ops listed = [] := by
      cases hr : Region.ready .any ops listed with
      | nil => rfl
      | cons x xs =>
        have : x ∈ Region.ready .any ops listed := by rw [hr]; simp
        obtain ⟨h1, o, ho, _⟩ := mem_ready.1 this
        rw [hall x (Array.getElem?_eq_some_iff.1 ho).1] at h1; cases h1
    refine ⟨hnil, ?_⟩
    have hdone : done = maskR E := Nat.eq_of_testBit_eq fun k => by
      cases hk : (maskR E).testBit k with
      | false => cases hk' : done.testBit k with
        | false => rfl
        | true => rw [hI2 k hk'] at hk; cases hk
      | true =>
        obtain ⟨e, he, hp, rfl⟩ := maskR_spec.1 hk
        rw [← hI1 e he hp]
        exact hall _ (hE.mem he).2.2
    have hab : a = b := Agree.eq (hI4.weak fun t ⟨e, he, _, _, hl, _⟩ => by
      rw [hall _ (hE.mem he).2.2] at hl; cases hl)
    subst hab
    have hbeq : Nat.beq done (maskR E) = true := by rw [hdone]; exact Nat.beq_refl _
    cases f with
    | zero => simp only [awpR, hbeq] at hI6; exact hn _ a w hI6 hI3
    | succ f => simp only [awpR, hbeq] at hI6; exact hn _ a w hI6 hI3
  | succ fuel ih =>
    intro listed a w hsz hcnt hcl ⟨done, f, n, tm, blk, b, hI1, hI2, hI3, hI4, hI5, hI6⟩
    have hex : ∃ i, i < ops.size ∧ listed.getD i true = false := by
      by_cases hx : ∃ i, i < ops.size ∧ listed.getD i true = false
      · exact hx
      · exfalso
        have : toCome ops.size listed = 0 := List.countP_eq_zero.2 (fun k hk => by
          have hk' := List.mem_range.1 hk
          cases hlk : listed.getD k true with
          | true => simp
          | false => exact absurd ⟨k, hk', hlk⟩ hx)
        omega
    have hready : ∀ {i o}, ops[i]? = some o → listed.getD i true = false → (∀ e ∈ o.after, Region.binds .any e = true → listed.getD e.on true = true) → i ∈ Region.ready .any ops listed := fun {i o} ho hl hed =>
      mem_ready.2 ⟨hl, o, ho, fun e he hb => getD_false_of (by have := hbk i o ho e he hb; have := (Array.getElem?_eq_some_iff.1 ho).1; omega) (hed e he hb)⟩
    -- whatever has come up: all that it waits for has come up
    have hanc : ∀ e ∈ E, (∀ ed ∈ e.o.after, Region.binds .any ed = true → listed.getD ed.on true = true) → ∀ k, e.a.testBit k = true → listed.getD k true = true := fun e he hed =>
      hE.anc e he (fun k => listed.getD k true = true) (fun i o hi ho => hcl i o (Array.getElem?_eq_some_iff.1 ho).1 hi ho) hed
    have hen : ∀ e ∈ E, (∀ ed ∈ e.o.after, Region.binds .any ed = true → listed.getD ed.on true = true) → enB (maskR E) done e.a = true := fun e he hed =>
      enB_spec.2 fun k hk hkR => by
        obtain ⟨e', he', hp', rfl⟩ := maskR_spec.1 hkR
        rw [← hI1 e' he' hp']; exact hanc e he hed _ hk
    refine ⟨fun hnil => ?_, fun i hi => ?_⟩
    · exfalso
      obtain ⟨i0, h1, h2⟩ := hex
      obtain ⟨m, hm1, hm2, hm3⟩ := least (p := fun i => i < ops.size ∧ listed.getD i true = false) i0 ⟨h1, h2⟩
      have hmem := hready (Array.getElem?_eq_getElem hm2.1) hm2.2 (fun e he hb => by
        have hlt := hbk m _ (Array.getElem?_eq_getElem hm2.1) e he hb
        cases hle : listed.getD e.on true with
        | true => rfl
        | false => exact absurd ⟨by omega, hle⟩ (hm3 e.on hlt))
      rw [hnil] at hmem; cases hmem
    · obtain ⟨hl, o, ho, hed⟩ := mem_ready.1 hi
      have hilt : i < ops.size := (Array.getElem?_eq_some_iff.1 ho).1
      have hedT : ∀ e ∈ o.after, Region.binds .any e = true → listed.getD e.on true = true := fun e he hb => getD_true_of (hed e he hb)
      have hcnt' : toCome ops.size (listed.setIfInBounds i true) = fuel := by have := toCome_set hilt hsz hl; omega
      have hget : ∀ j, (listed.setIfInBounds i true).getD j true = if j = i then true else listed.getD j true := fun j => by
        by_cases e : j = i
        · subst e; simp [hsz, hilt]
        · rw [if_neg e, getD_set_ne true (fun e' => e e'.symm)]
      have hgetT : ∀ j, listed.getD j true = true → (listed.setIfInBounds i true).getD j true = true := fun j hj => by rw [hget]; split <;> simp_all
      have hcl' : ∀ (j : Nat) (o : Oper), j < ops.size → (listed.setIfInBounds i true).getD j true = true → ops[j]? = some o → ∀ e ∈ o.after, Region.binds .any e = true → (listed.setIfInBounds i true).getD e.on true = true := fun j o' hj hlj ho' e he hb => by
        refine hgetT _ ?_
        rw [hget] at hlj
        by_cases e' : j = i
        · subst e'; rw [ho] at ho'; cases ho'; exact hedT e he hb
        · rw [if_neg e'] at hlj; exact hcl j o' hj hlj ho' e he hb
      have hsz' : (listed.setIfInBounds i true).size = ops.size := by simpa using hsz
      obtain ⟨e, heE, hei, heo⟩ := hE.get ho
      subst heo
      subst hei
      have hancE := hanc e heE hedT
      have henE := hen e heE hedT
      -- what it looks at holds in both frames the same
      have hlook : ∀ t ∈ e.o.looksAt ops, ¬ ∃ e' ∈ E, e'.p = true ∧ enB (maskR E) done e'.a = true ∧ listed.getD e'.i true = false ∧ e'.o.dst = some t := by
        rintro t ht ⟨e', he', hp', _, hl', hd'⟩
        obtain ⟨_, d, h1, _, h2⟩ := hE.late e' he' hp'
        rw [hd'] at h1; cases h1
        rw [hancE _ (h2 e heE ht)] at hl'; cases hl'
      unfold wpOp
      simp only [ho]
      rw [hI4.wanted hlook]
      cases hp : e.p with
      | true =>
        obtain ⟨d, hd, hok⟩ := hI5 e heE hp henE hl
        obtain ⟨hlate, d', hd', hd1, _⟩ := hE.late e heE hp
        rw [hd] at hd'; cases hd'
        obtain ⟨ρ, Im, hR0⟩ := hI3
        obtain ⟨u, hu, hrun⟩ := hok.run hτ hR0 (late_nc hlate)
        have hdn : d < n ∨ ¬ d < n := Nat.lt_or_ge d n |>.imp id Nat.not_lt.2
        have next : wpAny P .any ops Q fuel (listed.setIfInBounds e.i true) (a.put e.o.dst u) w := by
          refine ih _ _ w hsz' hcnt' hcl' ⟨done, f, n, tm, blk, b.put e.o.dst u, fun e' he' hp' => ?_, hI2, ?_, ?_, fun e' he' hp' hen' hl' => ?_, hI6⟩
          · rw [hget, if_neg (fun x => by have := hE.uniq he' heE x; subst this; rw [hp] at hp'; cases hp')]; exact hI1 e' he' hp'
          · refine ⟨ρ, Im, ?_⟩
            rw [hd]
            rcases hdn with hdn | hdn
            · have := hR0.put hdn hu
              rwa [updT_self rfl] at this
            · have e1 : b.put (some d) u = b := by
                have : ¬ d < b.tmps.size := by rw [hR0.size]; exact hdn
                simp [Act.put, Array.setIfInBounds, this]
              rw [e1]; exact hR0
          · rw [hd]
            rcases hdn with hdn | hdn
            · refine (hI4.putD (by rw [hR0.size]; exact hdn) u).weak ?_
              rintro t ⟨⟨e', he', hp', hen', hl', hdt⟩, hne⟩
              refine ⟨e', he', hp', hen', ?_, hdt⟩
              rw [hget, if_neg (fun x => ?_)]
              · exact hl'
              · have := hE.uniq he' heE x
                subst this
                rw [hd] at hdt; cases hdt
                exact hne rfl
            · have hbs : ¬ d < b.tmps.size := by rw [hR0.size]; exact hdn
              have e1 : b.put (some d) u = b := by simp [Act.put, Array.setIfInBounds, hbs]
              have e2 : a.put (some d) u = a := by
                have : ¬ d < a.tmps.size := by rw [hI4.2.1]; exact hbs
                simp [Act.put, Array.setIfInBounds, this]
              rw [e1, e2]
              refine ⟨hI4.1, hI4.2.1, fun t ht => ?_⟩
              by_cases e3 : t = d
              · subst e3
                have h1 : ¬ t < a.tmps.size := by rw [hI4.2.1]; exact hbs
                simp [Array.getD_eq_getD_getElem?, hbs, h1]
              · refine hI4.2.2 t fun ⟨e', he', hp', hen', hl', hdt⟩ => ht ⟨e', he', hp', hen', ?_, hdt⟩
                rw [hget, if_neg (fun x => ?_)]
                · exact hl'
                · have := hE.uniq he' heE x
                  subst this
                  rw [hd] at hdt; cases hdt
                  exact e3 rfl
          · refine hI5 e' he' hp' hen' ?_
            rw [hget] at hl'
            by_cases x : e'.i = e.i
            · rw [if_pos x] at hl'; cases hl'
            · rwa [if_neg x] at hl'
        rcases hrun with ⟨hw, hr⟩ | ⟨hw, hu0⟩
        · rw [if_pos hw]
          refine .inl ?_
          unfold Oper.wp
          rw [hI4.exec (hselE e heE) hlook, hr]
          exact next
        · rw [if_neg (by rw [hw]; decide)]
          subst hu0; exact next
      | false =>
        have hdn : done.testBit e.i = false := by rw [← hI1 e heE hp]; exact hl
        have hRe : (maskR E).testBit e.i = true := maskR_spec.2 ⟨e, heE, hp, rfl⟩
        have hbeq : Nat.beq done (maskR E) = false := by
          cases hb : Nat.beq done (maskR E) with
          | false => rfl
          | true => rw [Nat.eq_of_beq_eq_true hb, hRe] at hdn; cases hdn
        cases f with
        | zero => unfold awpR at hI6; rw [hbeq] at hI6; exact hI6.elim
        | succ f =>
          simp only [awpR, hbeq] at hI6
          have hstep := eachR_mem hI6 (readyR_mem heE hp hdn henE)
          obtain ⟨ρ, Im, hR0⟩ := hI3
          have next : ∀ a' b' w', Agree (fun t => ∃ e ∈ E, e.p = true ∧ enB (maskR E) done e.a = true ∧ listed.getD e.i true = false ∧ e.o.dst = some t) a' b' →
              (∃ S', (agains P τ ops (maskR E) done e.a E S' (forceN (Nat.lor done (2 ^ e.i)) fun done' => runP P τ ops (maskR E) false done done' E S' fun S => awpR P τ ops E (maskR E) f done' S K)) ∧ RelE w0 G Im0 S' b' w') →
              wpAny P .any ops Q fuel (listed.setIfInBounds e.i true) a' w' := by
            rintro a' b' w' hab ⟨⟨n', tm', blk'⟩, hag, hR'⟩
            obtain ⟨hst, hrun⟩ := agains_spec E hag
            rw [forceN_eq] at hrun
            obtain ⟨tm'', b'', h1, h2, h3, h4, h5⟩ := runP_spec hτ hE E (fun _ h => h) hpw tm' b' hrun hR'
            have hnotR : ∀ {e'}, e' ∈ E → e'.p = true → e'.i ≠ e.i := fun {e'} he' hp' x => by
              have := hE.uniq he' heE x
              subst this; rw [hp] at hp'; cases hp'
            have hmono : ∀ {x}, enB (maskR E) done x = true → enB (maskR E) (Nat.lor done (2 ^ e.i)) x = true := fun {x} hx =>
              enB_spec.2 fun k hk hkR => lor_bit.2 (.inl (enB_spec.1 hx k hk hkR))
            have hnew : ∀ {e'}, e' ∈ E → NewB (maskR E) false done (Nat.lor done (2 ^ e.i)) e' = true → e'.p = true ∧ enB (maskR E) (Nat.lor done (2 ^ e.i)) e'.a = true ∧ enB (maskR E) done e'.a = false := fun {e'} _ h => by
              simp only [NewB, Bool.and_eq_true, Bool.false_or, Bool.not_eq_true'] at h
              exact ⟨h.1.1, h.1.2, h.2⟩
            refine ih _ a' w' hsz' hcnt' hcl' ⟨Nat.lor done (2 ^ e.i), f, n', tm'', blk', b'', fun e' he' hp' => ?_, fun k hk => ?_, h2, ?_, fun e' he' hp' hen' hl' => ?_, h1⟩
            · rw [hget]
              by_cases x : e'.i = e.i
              · rw [if_pos x]; exact (lor_bit.2 (.inr x.symm)).symm
              · rw [if_neg x, hI1 e' he' hp']
                cases hb : done.testBit e'.i with
                | true => exact (lor_bit.2 (.inl hb)).symm
                | false =>
                  cases hb' : (Nat.lor done (2 ^ e.i)).testBit e'.i with
                  | false => rfl
                  | true =>
                    rcases lor_bit.1 hb' with h | h
                    · rw [hb] at h; cases h
                    · exact absurd h.symm x
            · rcases lor_bit.1 hk with h | h
              · exact hI2 k h
              · subst h; exact hRe
            · refine (hab.trans h4).weak ?_
              rintro t (⟨e', he', hp', hen', hl', hd'⟩ | ⟨e', he', hN, hd'⟩)
              · exact ⟨e', he', hp', hmono hen', by rw [hget, if_neg (hnotR he' hp')]; exact hl', hd'⟩
              · obtain ⟨hp', hen', hold⟩ := hnew he' hN
                refine ⟨e', he', hp', hen', ?_, hd'⟩
                rw [hget, if_neg (hnotR he' hp')]
                cases hl' : listed.getD e'.i true with
                | false => rfl
                | true =>
                  have := hen e' he' (fun ed hed' hb => hcl e'.i e'.o (hE.mem he').2.2 hl' (hE.mem he').2.1 ed hed' hb)
                  rw [hold] at this; cases this
            · rw [hget, if_neg (hnotR he' hp')] at hl'
              cases hold : enB (maskR E) done e'.a with
              | false => exact h5 e' he' (by unfold NewB; rw [hp', hen', hold]; rfl)
              | true =>
                have hna : e.a.testBit e'.i = false := by
                  cases hx : e.a.testBit e'.i with
                  | false => rfl
                  | true => rw [hancE _ hx] at hl'; cases hl'
                obtain ⟨d, hd, hok⟩ := hst e' he' hp' hold hna
                obtain ⟨_, d', hd', hd1, _⟩ := hE.late e' he' hp'
                rw [hd] at hd'; cases hd'
                have hkeep : ∀ t, (∀ e2 ∈ E, NewB (maskR E) false done (Nat.lor done (2 ^ e.i)) e2 = true → e2.o.dst ≠ some t) → tm'' t = tm' t := h3
                have htd : tm'' d = tm' d := hkeep d fun e2 he2 hN2 hd2 => by
                  refine hd1 e2 he2 (fun x => ?_) hd2
                  have := hE.uniq he2 he' x
                  subst this
                  have := (hnew he2 hN2).2.2
                  rw [hold] at this; cases this
                refine ⟨d, hd, ?_⟩
                rw [htd]
                refine hok.congr fun t ht => hkeep t fun e2 he2 hN2 hd2 => ?_
                obtain ⟨hp2, _, hold2⟩ := hnew he2 hN2
                obtain ⟨_, d2, h6, _, h7⟩ := hE.late e2 he2 hp2
                rw [hd2] at h6; cases h6
                have htr := hE.trans e' he' e2 he2 (h7 e' he' ht)
                have : enB (maskR E) done e2.a = true := enB_spec.2 fun k hk hkR => enB_spec.1 hold k (htr k hk) hkR
                rw [hold2] at this; cases this
          have key := awpOps_step (Q := fun _ _ _ => False) (K' := fun b' w' => ∃ S', (agains P τ ops (maskR E) done e.a E S' (forceN (Nat.lor done (2 ^ e.i)) fun done' => runP P τ ops (maskR E) false done done' E S' fun S => awpR P τ ops E (maskR E) f done' S K)) ∧ RelE w0 G Im0 S' b' w')
            hτ hstep hR0 (fun S' a' w' hS' hR' => ⟨S', hS', hR'⟩)
          split
          · rename_i hw
            rw [if_pos hw] at key
            exact .inl (wp_agree hI4 (hselE e heE) hlook key next)
          · rename_i hw
            rw [if_neg hw] at key
            exact next _ _ _ (hI4.put _ _) key

/-! ### the plan is made -/
theorem ancE_spec {n : Nat} {acc : List Nat} {k : Nat} : ∀ {es : List Go.Edge}, (ancE n acc es).testBit k = true ↔ ∃ ed ∈ es, Region.binds .any ed = true ∧ (ed.on = k ∨ (acc.getD (n - 1 - ed.on) 0).testBit k = true)
  | [] => by simp [ancE]
  | ed :: l => by
    simp only [ancE]
    cases hb : Region.binds .any ed with
    | false => simp [ancE_spec (es := l), hb]
    | true =>
      show ((2 ^ ed.on ||| acc.getD (n - 1 - ed.on) 0) ||| ancE n acc l).testBit k = true ↔ _
      rw [Nat.testBit_or, Nat.testBit_or, Nat.testBit_two_pow, Bool.or_eq_true, Bool.or_eq_true, decide_eq_true_eq, ancE_spec (es := l)]
      simp only [List.mem_cons]
      constructor
      · rintro (h | ⟨e, h1, h2⟩)
        · exact ⟨ed, .inl rfl, hb, h⟩
        · exact ⟨e, .inr h1, h2⟩
      · rintro ⟨e, rfl | h1, h2, h3⟩
        · exact .inl h3
        · exact .inr ⟨e, h1, h2, h3⟩

structure AncI (ops : Array Oper) (n : Nat) (out : List (Nat × Oper × Nat)) : Prop where
  len : out.length = n
  at_ : ∀ (i : Nat) (x : Nat × Oper × Nat), out[i]? = some x → x.1 = i ∧ ops[i]? = some x.2.1
  sp : ∀ (i : Nat) (x : Nat × Oper × Nat), out[i]? = some x → ∀ k, x.2.2.testBit k = true ↔ ∃ ed ∈ x.2.1.after, Region.binds .any ed = true ∧ (ed.on = k ∨ ∃ y : Nat × Oper × Nat, out[ed.on]? = some y ∧ y.2.2.testBit k = true)

theorem ancK_spec (hbk : ∀ (i : Nat) (o : Oper), ops[i]? = some o → ∀ e ∈ o.after, Region.binds .any e = true → e.on < i) {K : List (Nat × Oper × Nat) → Prop} : ∀ (l : List Oper) (n : Nat) (acc : List Nat) (out : List (Nat × Oper × Nat)),
    l = ops.toList.drop n → n ≤ ops.size → acc = (out.map (·.2.2)).reverse → AncI ops n out → ancK l n acc out K → ∃ L, AncI ops ops.size L ∧ K L
  | [], n, acc, out, hl, hn, _, hI, h => by
    have : n = ops.size := by
      have h1 := congrArg List.length hl
      simp at h1; omega
    subst this
    exact ⟨out, hI, h⟩
  | o :: l, n, acc, out, hl, hn, hacc, hI, h => by
    simp only [ancK, forceN_eq] at h
    have hlt : n < ops.toList.length := by
      have h1 := congrArg List.length hl
      simp at h1 ⊢; omega
    rw [List.drop_eq_getElem_cons hlt] at hl
    have h1 : o = ops.toList[n] := by injection hl
    have h2 : l = ops.toList.drop (n + 1) := by injection hl
    have ho : ops[n]? = some o := by rw [h1]; simp
    refine ancK_spec hbk l (n + 1) _ _ h2 (by simp at hlt; omega) (by simp [hacc]) ⟨by simp [hI.len], fun i x hx => ?_, fun i x hx k => ?_⟩ h
    · rcases Nat.lt_or_ge i n with hi | hi
      · rw [List.getElem?_append_left (by rw [hI.len]; exact hi)] at hx; exact hI.at_ i x hx
      · rw [List.getElem?_append_right (by rw [hI.len]; exact hi), hI.len] at hx
        have : i - n = 0 := by
          have := (List.getElem?_eq_some_iff.1 hx).1
          simp at this; omega
        rw [this] at hx; simp at hx; subst hx
        have : i = n := by omega
        subst this
        exact ⟨rfl, ho⟩
    · have ext : ∀ (m : Nat), m < n → (out ++ [(n, o, ancE n acc o.after.toList)])[m]? = out[m]? := fun m hm => List.getElem?_append_left (by rw [hI.len]; exact hm)
      rcases Nat.lt_or_ge i n with hi | hi
      · rw [ext i hi] at hx
        rw [hI.sp i x hx k]
        constructor
        · rintro ⟨ed, h3, h4, h5⟩
          have := hbk i _ (hI.at_ i x hx).2 ed h3 h4
          exact ⟨ed, h3, h4, by rw [ext _ (by omega)]; exact h5⟩
        · rintro ⟨ed, h3, h4, h5⟩
          have := hbk i _ (hI.at_ i x hx).2 ed h3 h4
          rw [ext _ (by omega)] at h5
          exact ⟨ed, h3, h4, h5⟩
      · rw [List.getElem?_append_right (by rw [hI.len]; exact hi), hI.len] at hx
        have : i - n = 0 := by
          have := (List.getElem?_eq_some_iff.1 hx).1
          simp at this; omega
        rw [this] at hx; simp at hx; subst hx
        show (ancE n acc o.after.toList).testBit k = true ↔ _
        rw [ancE_spec]
        have hval : ∀ m, m < n → ((acc.getD (n - 1 - m) 0).testBit k = true ↔ ∃ y : Nat × Oper × Nat, (out ++ [(n, o, ancE n acc o.after.toList)])[m]? = some y ∧ y.2.2.testBit k = true) := fun m hm => by
          rw [ext m hm]
          have hm' : m < out.length := by rw [hI.len]; exact hm
          have e1 : acc.getD (n - 1 - m) 0 = out[m].2.2 := by
            rw [hacc, List.getD_eq_getElem?_getD, List.getElem?_reverse (by simp [hI.len]; omega)]
            have : (out.map (·.2.2)).length - 1 - (n - 1 - m) = m := by simp [hI.len]; omega
            rw [this]
            simp [hm']
          rw [e1, List.getElem?_eq_getElem hm']
          simp
        constructor
        · rintro ⟨ed, h3, h4, h5⟩
          have := hbk n o ho ed (by simpa using h3) h4
          exact ⟨ed, by simpa using h3, h4, h5.imp id (hval _ this).1⟩
        · rintro ⟨ed, h3, h4, h5⟩
          have := hbk n o ho ed h3 h4
          exact ⟨ed, by simpa using h3, h4, h5.imp id (hval _ this).2⟩

def mkEnt (τ : Tys) (ops : Array Oper) (L : List (Nat × Oper × Nat)) (x : Nat × Oper × Nat) : Ent := ⟨x.1, x.2.1, x.2.2, lateOk τ ops L x.1 x.2.1⟩
theorem entsK_spec {L : List (Nat × Oper × Nat)} {K : List Ent → Prop} : ∀ (l : List (Nat × Oper × Nat)) (out : List Ent), entsK τ ops L l out K → K (out ++ l.map (mkEnt τ ops L))
  | [], out, h => by simpa [entsK] using h
  | (i, o, a) :: l, out, h => by
    simp only [entsK] at h
    have hm : out ++ List.map (mkEnt τ ops L) ((i, o, a) :: l) = (out ++ [⟨i, o, a, lateOk τ ops L i o⟩]) ++ l.map (mkEnt τ ops L) := by simp [mkEnt]
    rw [hm]
    cases hb : lateOk τ ops L i o with
    | true => simp only [hb] at h; exact entsK_spec l _ h
    | false => simp only [hb] at h; exact entsK_spec l _ h

theorem ents_ok (hbk : ∀ (i : Nat) (o : Oper), ops[i]? = some o → ∀ e ∈ o.after, Region.binds .any e = true → e.on < i) {L : List (Nat × Oper × Nat)} (hL : AncI ops ops.size L) : EntOk τ ops (L.map (mkEnt τ ops L)) := by
  have get : ∀ {e : Ent}, e ∈ L.map (mkEnt τ ops L) → ∃ x : Nat × Oper × Nat, L[x.1]? = some x ∧ e = mkEnt τ ops L x := fun {e} he => by
    obtain ⟨x, hx, rfl⟩ := List.mem_map.1 he
    obtain ⟨i, hi⟩ := List.getElem?_of_mem hx
    have := (hL.at_ i x hi).1
    subst this
    exact ⟨x, hi, rfl⟩
  have back : ∀ (i : Nat) (x : Nat × Oper × Nat), L[i]? = some x → ∀ k, x.2.2.testBit k = true → k < i := by
    intro i
    induction i using Nat.strongRecOn with
    | _ i ih =>
      intro x hx k hk
      obtain ⟨ed, h1, h2, h3⟩ := (hL.sp i x hx k).1 hk
      have hlt := hbk i _ (hL.at_ i x hx).2 ed h1 h2
      rcases h3 with rfl | ⟨y, hy, hyk⟩
      · exact hlt
      · have := ih ed.on hlt y hy k hyk; omega
  have anc : ∀ (listed : Nat → Prop), (∀ i o, listed i → ops[i]? = some o → ∀ ed ∈ o.after, Region.binds .any ed = true → listed ed.on) → ∀ (i : Nat) (x : Nat × Oper × Nat), L[i]? = some x →
      (∀ ed ∈ x.2.1.after, Region.binds .any ed = true → listed ed.on) → ∀ k, x.2.2.testBit k = true → listed k := by
    intro listed hc i
    induction i using Nat.strongRecOn with
    | _ i ih =>
      intro x hx hed k hk
      obtain ⟨ed, h1, h2, h3⟩ := (hL.sp i x hx k).1 hk
      have hlt := hbk i _ (hL.at_ i x hx).2 ed h1 h2
      have hl := hed ed h1 h2
      rcases h3 with rfl | ⟨y, hy, hyk⟩
      · exact hl
      · exact ih ed.on hlt y hy (fun ed' h4 h5 => hc _ _ hl (hL.at_ _ y hy).2 ed' h4 h5) k hyk
  have trans : ∀ (i : Nat) (x : Nat × Oper × Nat), L[i]? = some x → ∀ (j : Nat) (y : Nat × Oper × Nat), L[j]? = some y → x.2.2.testBit j = true → ∀ k, y.2.2.testBit k = true → x.2.2.testBit k = true := by
    intro i
    induction i using Nat.strongRecOn with
    | _ i ih =>
      intro x hx j y hy hj k hk
      obtain ⟨ed, h1, h2, h3⟩ := (hL.sp i x hx j).1 hj
      have hlt := hbk i _ (hL.at_ i x hx).2 ed h1 h2
      rcases h3 with rfl | ⟨z, hz, hzj⟩
      · exact (hL.sp i x hx k).2 ⟨ed, h1, h2, .inr ⟨y, hy, hk⟩⟩
      · exact (hL.sp i x hx k).2 ⟨ed, h1, h2, .inr ⟨z, hz, ih ed.on hlt z hz j y hy hzj k hk⟩⟩
  refine ⟨by simp [hL.len], fun i e he => ?_, fun e he k hk => ?_, fun e he listed hc hed k hk => ?_, fun e he e' he' hj k hk => ?_, fun e he hp => ?_⟩
  · rw [List.getElem?_map] at he
    cases hx : L[i]? with
    | none => simp [hx] at he
    | some x => simp [hx] at he; subst he; exact hL.at_ i x hx
  · obtain ⟨x, hx, rfl⟩ := get he
    exact back _ x hx k hk
  · obtain ⟨x, hx, rfl⟩ := get he
    exact anc listed hc _ x hx hed k hk
  · obtain ⟨x, hx, rfl⟩ := get he
    obtain ⟨y, hy, rfl⟩ := get he'
    exact trans _ x hx _ y hy hj k hk
  · obtain ⟨x, hx, rfl⟩ := get he
    simp only [mkEnt] at hp ⊢
    unfold lateOk at hp
    split at hp
    · rename_i d hl hd
      rw [List.all_eq_true] at hp
      refine ⟨hl, d, hd, fun e' he' hne hd' => ?_, fun e' he' ht => ?_⟩
      · obtain ⟨y, hy, rfl⟩ := get he'
        have := hp y (List.mem_of_getElem? hy)
        obtain ⟨j, o', a⟩ := y
        simp only [mkEnt] at hne hd' this
        simp only [Bool.and_eq_true, Bool.or_eq_true, dstIs, hd'] at this
        rcases this.1 with h1 | h1
        · exact hne (Nat.eq_of_beq_eq_true h1).symm
        · simp [Nat.beq_refl] at h1
      · obtain ⟨y, hy, rfl⟩ := get he'
        have := hp y (List.mem_of_getElem? hy)
        obtain ⟨j, o', a⟩ := y
        simp only [mkEnt] at ht this ⊢
        simp only [Bool.and_eq_true, Bool.or_eq_true] at this
        rcases this.2 with h1 | h1
        · exfalso
          have : (o'.looksAt ops).any (fun t => Nat.beq t d) = true := List.any_eq_true.2 ⟨d, ht, Nat.beq_refl _⟩
          rw [this] at h1; cases h1
        · exact h1
    · cases hp

theorem drawR_sound [hT : Nonempty (TabH w0.heap Im0)] (hτ : TysOk P τ) (hm : P.follows .mixedOrders = true) {id : Nat} {Q : Exit → Act → World → Prop} {K : AState → Prop} (h : awpDraw P τ ops S K) (hR : RelE w0 G Im0 S a w)
    (hn : ∀ S' a' w', K S' → RelE w0 G Im0 S' a' w' → Q .normal a' w') : (Code.region id ops true).wp P Q a w := by
  unfold awpDraw at h
  cases hb : backAll ops.toList 0 && noSelB ops.toList with
  | false => simp only [hb] at h
  | true =>
    simp only [hb] at h
    rw [Bool.and_eq_true] at hb
    have hbk : ∀ (i : Nat) (o : Oper), ops[i]? = some o → ∀ e ∈ o.after, Region.binds .any e = true → e.on < i := fun i o ho e he hb' => by
      have := backAll_spec hb.1 (i := i) (o := o) (by simpa using ho) e he hb'
      omega
    obtain ⟨L, hL, h⟩ := ancK_spec hbk ops.toList 0 [] [] rfl (Nat.zero_le _) rfl ⟨rfl, by simp, by simp⟩ h
    have hE := ents_ok (τ := τ) hbk hL
    have h := entsK_spec _ _ h
    simp only [List.nil_append, forceN_eq] at h
    generalize L.map (mkEnt τ ops L) = E at h hE
    obtain ⟨n, tm, blk⟩ := S
    have hpw : E.Pairwise (fun e e' : Ent => e.i < e'.i) := by
      rw [List.pairwise_iff_getElem]
      intro i j hi hj hij
      have h1 := (hE.at_ i _ (List.getElem?_eq_getElem hi)).1
      have h2 := (hE.at_ j _ (List.getElem?_eq_getElem hj)).1
      omega
    refine wp_region_any hm ?_
    have hR' : RelE w0 G Im0 ⟨n, tm, blk⟩ a { w with drawn := w.drawn + 1 } := by
      obtain ⟨ρ, Im, hR0⟩ := hR
      exact ⟨ρ, Im, hR0.after (w' := { w with drawn := w.drawn + 1 }) (fun _ _ => rfl) (Nat.le_refl _) rfl rfl rfl (fun _ _ x => x) (fun _ _ x => .inl x)⟩
    obtain ⟨tm'', b'', h1, h2, h3, h4, h5⟩ := runP_spec hτ hE E (fun _ h => h) hpw tm a h hR'
    have hnew : ∀ {e : Ent}, NewB (maskR E) true 0 0 e = true ↔ e.p = true ∧ enB (maskR E) 0 e.a = true := fun {e} => by simp [NewB]
    have hl0 : ∀ e ∈ E, (Array.replicate ops.size false).getD e.i true = false := fun e he => by simp [(hE.mem he).2.2]
    refine plan_sound hτ hE hb.1 hb.2 hn ops.size _ a _ (by simp) ?_ (fun i o hi hl => by simp [hi] at hl) ⟨0, E.length, n, tm'', blk, b'', fun e he _ => by rw [hl0 e he]; simp, fun k hk => by simp at hk, h2, h4.weak ?_, fun e he hp hen _ => h5 e he (hnew.2 ⟨hp, hen⟩), h1⟩
    · unfold toCome
      rw [List.countP_eq_length.2 (fun k hk => by have := List.mem_range.1 hk; simp [this]), List.length_range]
    · rintro t ⟨e, he, hN, hd⟩
      obtain ⟨h6, h7⟩ := hnew.1 hN
      exact ⟨e, he, h6, h7, hl0 e he, hd⟩
end
end Vg
