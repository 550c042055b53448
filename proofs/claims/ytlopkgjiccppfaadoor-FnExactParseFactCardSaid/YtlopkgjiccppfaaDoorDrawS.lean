/- A region that draws its order: the walk in the order of the text serves every order. -/
import Derived.Test.YtlopkgjiccppfaaDoorDraw
namespace Vg
open Go

section
variable {P : Program} {τ : Tys} {Im Im' : Nat → Nat → Prop} {ρ ρ' ρ2 : Rho} {h h' : Array Obj} {w w' : World}
variable {w0 : World} {G : GP} {Im0 : Nat → Nat → Prop} {S : AState} {a : Act} {n : Nat} {tm : Nat → AV} {blk : Nat → Option Blk} {ops : Array Oper}
variable [hT : Nonempty (TabH w0.heap Im0)]

/-- one operation of the first part, in the state in which the text has it -/
def OpOk (P : Program) (τ : Tys) (ops : Array Oper) (n : Nat) (blk : Nat → Option Blk) (o : Oper) (tm : Nat → AV) (v : AV) : Prop :=
  match o.guard with
  | none => pvalD P τ (ev ⟨n, tm, blk⟩) blk o.op (· = v)
  | some (g, want) => ∃ t, (ops[g]?).bind (·.dst) = some t ∧ ((∃ c, tm t = .dat (.bool c) ∧ (c = want → pvalD P τ (ev ⟨n, tm, blk⟩) blk o.op (· = v)) ∧ (c ≠ want → v = .tup [])) ∨ (tm t = .tup [] ∧ v = .tup []))

def Chain (P : Program) (τ : Tys) (ops : Array Oper) (n : Nat) (blk : Nat → Option Blk) : List Oper → (Nat → AV) → List AV → (Nat → AV) → Prop
  | [], tm, [], tm' => tm' = tm
  | o :: l, tm, v :: vs, tm' => ∃ d, o.dst = some d ∧ d < n ∧ OpOk P τ ops n blk o tm v ∧ Chain P τ ops n blk l (updT tm d v) vs tm'
  | _, _, _, _ => False

theorem updT_self {t : Nat} {v : AV} (h : tm t = v) : updT tm t v = tm := by
  funext s
  by_cases e : s = t
  · subst e; rw [updT_same, h]
  · rw [updT_ne _ e]

theorem awpPre_chain : ∀ (l : List Oper) (tm : Nat → AV) (K : AState → Prop), (∀ o ∈ l, o.dst.isSome = true) → awpPre P τ ops l ⟨n, tm, blk⟩ K →
    ∃ vs tm', Chain P τ ops n blk l tm vs tm' ∧ K ⟨n, tm', blk⟩
  | [], tm, K, _, h => ⟨[], tm, rfl, h⟩
  | o :: l, tm, K, hd, h => by
    have ih := fun tm (h : awpPre P τ ops l ⟨n, tm, blk⟩ K) => awpPre_chain l tm K (fun o ho => hd o (by simp [ho])) h
    obtain ⟨d, hdst⟩ := Option.isSome_iff_exists.1 (hd o (by simp))
    have put : ∀ {tm v}, (AState.put ⟨n, tm, blk⟩ o.dst v fun S => awpPre P τ ops l S K) → d < n ∧ awpPre P τ ops l ⟨n, updT tm d v, blk⟩ K := fun {tm v} hp => by
      rw [hdst] at hp
      simp only [AState.put] at hp
      cases hb : Nat.blt d n with
      | false => simp [hb] at hp
      | true => simp only [hb] at hp; exact ⟨blt_lt hb, hp⟩
    simp only [awpPre] at h
    cases hg : o.guard with
    | none =>
      simp only [hg] at h
      obtain ⟨v, hv1, hv2⟩ := pvalD_ex h
      rw [force_eq] at hv1
      obtain ⟨hn, hp⟩ := put hv1
      obtain ⟨vs, tm', h1, h2⟩ := ih _ hp
      exact ⟨v :: vs, tm', ⟨d, hdst, hn, by unfold OpOk; simp only [hg]; exact hv2, h1⟩, h2⟩
    | some gw =>
      obtain ⟨g, want⟩ := gw
      simp only [hg] at h
      cases ht : (ops[g]?).bind (·.dst) with
      | none => simp [ht] at h
      | some t =>
        simp only [ht] at h
        split at h
        · rename_i c hc
          have run : c = want → (pvalD P τ (ev ⟨n, updT tm t (.dat (.bool want)), blk⟩) blk o.op fun v => force v fun v => AState.put ⟨n, updT tm t (.dat (.bool want)), blk⟩ o.dst v fun S => awpPre P τ ops l S K) →
              ∃ vs tm', Chain P τ ops n blk (o :: l) tm vs tm' ∧ K ⟨n, tm', blk⟩ := fun e hrun => by
            rw [updT_self (by rw [hc, e])] at hrun
            obtain ⟨v, hv1, hv2⟩ := pvalD_ex hrun
            rw [force_eq] at hv1
            obtain ⟨hn, hp⟩ := put hv1
            obtain ⟨vs, tm', h1, h2⟩ := ih _ hp
            exact ⟨v :: vs, tm', ⟨d, hdst, hn, by unfold OpOk; simp only [hg]; exact ⟨t, ht, .inl ⟨c, hc, fun _ => hv2, fun e' => absurd e e'⟩⟩, h1⟩, h2⟩
          have skip : ∀ b, c = b → b ≠ want → (AState.put ⟨n, updT tm t (.dat (.bool b)), blk⟩ o.dst (.tup []) fun S => awpPre P τ ops l S K) →
              ∃ vs tm', Chain P τ ops n blk (o :: l) tm vs tm' ∧ K ⟨n, tm', blk⟩ := fun b e hne hs => by
            rw [updT_self (by rw [hc, e])] at hs
            obtain ⟨hn, hp⟩ := put hs
            obtain ⟨vs, tm', h1, h2⟩ := ih _ hp
            exact ⟨.tup [] :: vs, tm', ⟨d, hdst, hn, by unfold OpOk; rw [hg]; exact ⟨t, ht, .inl ⟨c, hc, fun e' => absurd (e ▸ e') hne, fun _ => rfl⟩⟩, h1⟩, h2⟩
          cases want with
          | true => cases c with
            | true => exact run rfl (h.1 rfl)
            | false => exact skip false rfl (by decide) (h.2 rfl)
          | false => cases c with
            | true => exact skip true rfl (by decide) (h.2 rfl)
            | false => exact run rfl (h.1 rfl)
        · rename_i hc
          obtain ⟨hn, hp⟩ := put h
          obtain ⟨vs, tm', h1, h2⟩ := ih _ hp
          exact ⟨.tup [] :: vs, tm', ⟨d, hdst, hn, by unfold OpOk; rw [hg]; exact ⟨t, ht, .inr ⟨hc, rfl⟩⟩, h1⟩, h2⟩
        · exact h.elim

/-- the slots when just the operations of E have been carried out -/
def AtSet (pre : List Oper) (vs : List AV) (tm : Nat → AV) (E : Nat → Bool) (tm' : Nat → AV) : Prop :=
  (∀ (j : Nat) (o : Oper) (v : AV) (d : Nat), pre[j]? = some o → vs[j]? = some v → o.dst = some d → E j = true → tm' d = v) ∧
  ∀ t, (∀ (j : Nat) (o : Oper), pre[j]? = some o → E j = true → o.dst ≠ some t) → tm' t = tm t

/-- no two operations of the first part write one slot -/
def Distinct (pre : List Oper) : Prop := ∀ (i j : Nat) (o o' : Oper) (d : Nat), pre[i]? = some o → pre[j]? = some o' → o.dst = some d → o'.dst = some d → i = j

theorem Chain.length : ∀ {l : List Oper} {tm : Nat → AV} {vs : List AV} {tm' : Nat → AV}, Chain P τ ops n blk l tm vs tm' → vs.length = l.length
  | [], _, [], _, _ => rfl
  | o :: l, tm, v :: vs, tm', h => by obtain ⟨d, _, _, _, h⟩ := h; simp [Chain.length h]
  | [], _, _ :: _, _, h => h.elim
  | _ :: _, _, [], _, h => h.elim

theorem Chain.at : ∀ {l : List Oper} {tm : Nat → AV} {vs : List AV} {tm' : Nat → AV}, Chain P τ ops n blk l tm vs tm' → Distinct l →
    (∀ (i : Nat) (o : Oper) (v : AV), l[i]? = some o → vs[i]? = some v → ∃ d tmi, o.dst = some d ∧ d < n ∧ OpOk P τ ops n blk o tmi v ∧ AtSet l vs tm (fun j => decide (j < i)) tmi) ∧
    AtSet l vs tm (fun _ => true) tm'
  | [], tm, [], tm', h, _ => by
    subst h
    exact ⟨by simp, by simp [AtSet]⟩
  | o :: l, tm, v :: vs, tm', h, hd => by
    obtain ⟨d, hdst, hn, hok, hch⟩ := h
    have hdl : Distinct l := fun i j x y t hi hj hx hy => by
      have := hd (i + 1) (j + 1) x y t (by simpa using hi) (by simpa using hj) hx hy
      omega
    have hnd : ∀ (j : Nat) (x : Oper), l[j]? = some x → x.dst ≠ some d := fun j x hj e => by
      have := hd 0 (j + 1) o x d rfl (by simpa using hj) hdst e
      omega
    obtain ⟨ih1, ih2⟩ := hch.at hdl
    have lift : ∀ {E : Nat → Bool} {E' : Nat → Bool} {tmi}, (∀ j, E' (j + 1) = E j) → E' 0 = true → AtSet l vs (updT tm d v) E tmi → AtSet (o :: l) (v :: vs) tm E' tmi := fun {E E' tmi} hE h0 hat => by
      refine ⟨fun j x y t hj hy hx hEj => ?_, fun t ht => ?_⟩
      · cases j with
        | zero =>
          simp at hj hy; subst hj; subst hy
          rw [hdst] at hx; cases hx
          rw [hat.2 d (fun j x hj _ => hnd j x hj), updT_same]
        | succ j =>
          simp at hj hy
          exact hat.1 j x y t hj hy hx (by rw [← hE]; exact hEj)
      · rw [hat.2 t (fun j x hj hEj => ht (j + 1) x (by simpa using hj) (by rw [hE]; exact hEj)), updT_ne _ (fun e => ht 0 o rfl h0 (by rw [hdst, e]))]
    refine ⟨fun i x y hi hy => ?_, lift (E := fun _ => true) (E' := fun _ => true) (fun _ => rfl) rfl ih2⟩
    cases i with
    | zero =>
      simp at hi hy; subst hi; subst hy
      exact ⟨d, tm, hdst, hn, hok, ⟨fun j _ _ _ _ _ _ hE => by simp at hE, fun t _ => rfl⟩⟩
    | succ i =>
      simp at hi hy
      obtain ⟨d', tmi, h1, h2, h3, h4⟩ := ih1 i x y hi hy
      exact ⟨d', tmi, h1, h2, h3, lift (fun j => by simp) (by simp) h4⟩
  | [], _, _ :: _, _, h, _ => h.elim
  | _ :: _, _, [], _, h, _ => h.elim

/-! ### what the check says -/
def Edge (o : Oper) (j : Nat) : Prop := ∃ e ∈ o.after, Region.binds .any e = true ∧ e.on = j
theorem edgeB_spec {o : Oper} {j : Nat} (h : edgeB o j = true) : Edge o j := by
  unfold edgeB at h
  simp only [List.any_eq_true, Bool.and_eq_true] at h
  obtain ⟨e, he, h1, h2⟩ := h
  exact ⟨e, by simpa using he, h1, Nat.eq_of_beq_eq_true h2⟩

theorem backAll_spec : ∀ {l : List Oper} {k i : Nat} {o : Oper}, backAll l k = true → l[i]? = some o → ∀ e ∈ o.after, Region.binds .any e = true → e.on < k + i
  | [], _, _, _, _, h, _, _, _ => by simp at h
  | x :: l, k, i, o, hb, h, e, he, hbind => by
    simp only [backAll, Bool.and_eq_true] at hb
    cases i with
    | zero =>
      simp at h; subst h
      have := hb.1
      simp only [backB, List.all_eq_true] at this
      have := this e (by simpa using he)
      simp only [hbind, Bool.not_true, Bool.false_or] at this
      exact blt_lt this
    | succ i =>
      simp at h
      have := backAll_spec hb.2 h e he hbind
      omega

theorem slotOk_spec {pre : List Oper} {o : Oper} {i t : Nat} : ∀ {l : List Oper} {k j : Nat} {o' : Oper}, slotOk pre o i t l k = true → l[j]? = some o' → o'.dst = some t → (k + j < i ∧ Edge o (k + j)) ∨ (i < k + j ∧ Edge o' i)
  | [], _, _, _, _, h, _ => by simp at h
  | x :: l, k, j, o', hs, h, hd => by
    simp only [slotOk, Bool.and_eq_true] at hs
    cases j with
    | zero =>
      simp at h; subst h
      have := hs.1
      have hdi : dstIs x t = true := by simp [dstIs, hd]
      simp only [hdi, Bool.not_true, Bool.false_or, Bool.or_eq_true, Bool.and_eq_true] at this
      rcases this with ⟨h1, h2⟩ | ⟨h1, h2⟩
      · exact .inl ⟨blt_lt h1, edgeB_spec h2⟩
      · exact .inr ⟨blt_lt h1, edgeB_spec h2⟩
    | succ j =>
      simp at h
      have := slotOk_spec hs.2 h hd
      rwa [show k + 1 + j = k + (j + 1) from by omega] at this

theorem dstIs_of {o : Oper} {t : Nat} (h : dstIs o t = false) : o.dst ≠ some t := by
  intro e; simp [dstIs, e] at h

theorem preOk_spec {pre : List Oper} : ∀ {l : List Oper} {k i : Nat} {o : Oper}, preOk ops pre l k = true → l[i]? = some o →
    (∃ d, o.dst = some d ∧ ∀ (j : Nat) (o' : Oper), i < j → l[j]? = some o' → o'.dst ≠ some d) ∧
    ∀ t ∈ o.looksAt ops, ∀ (j : Nat) (o' : Oper), pre[j]? = some o' → o'.dst = some t → (j < k + i ∧ Edge o j) ∨ (k + i < j ∧ Edge o' (k + i))
  | [], _, _, _, _, h => by simp at h
  | x :: l, k, i, o, hp, h => by
    simp only [preOk, Bool.and_eq_true] at hp
    obtain ⟨⟨⟨h1, h2⟩, h3⟩, h4⟩ := hp
    cases i with
    | zero =>
      simp at h; subst h
      obtain ⟨d, hd⟩ := Option.isSome_iff_exists.1 h1
      refine ⟨⟨d, hd, fun j o' hj ho' => ?_⟩, fun t ht j o' hj hd' => ?_⟩
      · cases j with
        | zero => omega
        | succ j =>
          simp at ho'
          rw [List.all_eq_true] at h2
          have := h2 o' (List.mem_of_getElem? ho')
          rw [hd] at this
          simp at this
          exact dstIs_of this
      · rw [List.all_eq_true] at h3
        have := slotOk_spec (h3 t ht) hj hd'
        simpa using this
    | succ i =>
      simp at h
      obtain ⟨⟨d, hd, h5⟩, h6⟩ := preOk_spec h4 h
      refine ⟨⟨d, hd, fun j o' hj ho' => ?_⟩, fun t ht j o' hj hd' => ?_⟩
      · cases j with
        | zero => omega
        | succ j => simp at ho'; exact h5 j o' (by omega) ho'
      · have := h6 t ht j o' hj hd'
        rwa [show k + 1 + i = k + (i + 1) from by omega] at this

theorem reach_listed {L : List Oper} {listed : Nat → Prop} (hcl : ∀ i o, listed i → L[i]? = some o → ∀ e ∈ o.after, Region.binds .any e = true → listed e.on) :
    ∀ (f : Nat) (o : Oper) (j : Nat), (∀ e ∈ o.after, Region.binds .any e = true → listed e.on) → reachB L f o j = true → listed j
  | 0, _, _, _, h => by simp [reachB] at h
  | f + 1, o, j, ho, h => by
    simp only [reachB, List.any_eq_true, Bool.and_eq_true, Bool.or_eq_true] at h
    obtain ⟨e, he, hb, h⟩ := h
    have he' : e ∈ o.after := by simpa using he
    have hl := ho e he' hb
    rcases h with h | h
    · rw [← Nat.eq_of_beq_eq_true h]; exact hl
    · cases ho' : L[e.on]? with
      | none => simp [ho'] at h
      | some o' =>
        simp only [ho'] at h
        exact reach_listed hcl f o' j (hcl e.on o' hl ho') h

theorem tailOk_spec {L : List Oper} : ∀ {l : List Oper} {k i : Nat} {o : Oper}, tailOk L l k = true → l[i]? = some o → ∀ j, j < k + i → ∃ f, reachB L f o j = true
  | [], _, _, _, _, h, _, _ => by simp at h
  | x :: l, k, i, o, ht, h, j, hj => by
    simp only [tailOk, Bool.and_eq_true] at ht
    cases i with
    | zero =>
      simp at h; subst h
      have := ht.1
      rw [List.all_eq_true] at this
      exact ⟨_, this j (List.mem_range.2 (by omega))⟩
    | succ i =>
      simp at h
      exact tailOk_spec ht.2 h j (by omega)

theorem looks_op {o : Oper} {x : Operand} {t : Nat} (hx : x ∈ o.op.operands) (e : x = .tmp t) : t ∈ o.looksAt ops := by
  subst e
  exact List.mem_append_left _ (List.mem_filterMap.2 ⟨.tmp t, by simpa using hx, rfl⟩)

/-- the count of what is still to come -/
def toCome (N : Nat) (listed : Array Bool) : Nat := (List.range N).countP fun i => !listed.getD i true

theorem countP_less {p q : Nat → Bool} {i : Nat} (hp : p i = true) (hq : q i = false) (h : ∀ j, j ≠ i → q j = p j) : ∀ (l : List Nat), l.Nodup → (i ∉ l → l.countP q = l.countP p) ∧ (i ∈ l → l.countP q + 1 = l.countP p)
  | [], _ => by simp
  | x :: l, hn => by
    have hn' := List.nodup_cons.1 hn
    obtain ⟨ih1, ih2⟩ := countP_less hp hq h l hn'.2
    by_cases e : x = i
    · subst e
      refine ⟨fun hm => absurd (List.mem_cons_self) hm, fun _ => ?_⟩
      rw [List.countP_cons, List.countP_cons, hp, hq, ih1 hn'.1]
      simp
    · refine ⟨fun hm => ?_, fun hm => ?_⟩
      · rw [List.countP_cons, List.countP_cons, h x e, ih1 (fun h => hm (List.mem_cons_of_mem _ h))]
      · rcases List.mem_cons.1 hm with h1 | h1
        · exact absurd h1.symm e
        · rw [List.countP_cons, List.countP_cons, h x e]
          have := ih2 h1
          omega

theorem toCome_set {N : Nat} {listed : Array Bool} {i : Nat} (hi : i < N) (hs : listed.size = N) (hl : listed.getD i true = false) : toCome N (listed.setIfInBounds i true) + 1 = toCome N listed := by
  unfold toCome
  refine (countP_less (i := i) (by rw [hl]; rfl) ?_ (fun j hj => ?_) _ List.nodup_range).2 (List.mem_range.2 hi)
  · have : (listed.setIfInBounds i true).getD i true = true := by simp [hs, hi]
    rw [this]; rfl
  · rw [getD_set_ne true (fun e => hj e.symm)]

theorem least {p : Nat → Prop} : ∀ (i : Nat), p i → ∃ m, m ≤ i ∧ p m ∧ ∀ j, j < m → ¬ p j := by
  intro i
  induction i using Nat.strongRecOn with
  | _ i ih =>
    intro hi
    by_cases h : ∃ j, j < i ∧ p j
    · obtain ⟨j, hj, hp⟩ := h
      obtain ⟨m, h1, h2, h3⟩ := ih j hj hp
      exact ⟨m, by omega, h2, h3⟩
    · exact ⟨i, Nat.le_refl _, hi, fun j hj hp => h ⟨j, hj, hp⟩⟩

theorem getD_true_of {listed : Array Bool} {i : Nat} (h : listed.getD i false = true) : listed.getD i true = true := by
  by_cases hi : i < listed.size <;> simp_all
theorem getD_false_of {listed : Array Bool} {i : Nat} (hi : i < listed.size) (h : listed.getD i true = true) : listed.getD i false = true := by
  simp_all

theorem noSelB_mem {l : List Oper} (h : noSelB l = true) (x : Oper) (hx : x ∈ l) : notSel x.op = true := by
  induction l with
  | nil => cases hx
  | cons o l ih =>
    unfold noSelB at h
    cases h1 : notSel o.op with
    | false => rw [h1] at h; cases h
    | true =>
      rw [h1] at h
      rcases List.mem_cons.1 hx with e | e
      · subst e; exact h1
      · exact ih h e
theorem noSelB_spec {ops : Array Oper} (h : noSelB ops.toList = true) : Region.noSelect ops = true := by
  unfold Region.noSelect
  rw [Array.all_eq_true_iff_forall_mem]
  intro x hx
  have := noSelB_mem h x (by simpa using hx)
  unfold notSel at this
  exact this
theorem draw_sound (hτ : TysOk P τ) (hm : P.follows .mixedOrders = true) {id : Nat} {Q : Exit → Act → World → Prop} {K : AState → Prop} (hd : drawOk ops (preLen ops.toList) = true)
    (h : awpPre P τ ops (ops.toList.take (preLen ops.toList)) S fun S => awpOps P τ ops (ops.toList.drop (preLen ops.toList)) S K) (hR : RelE w0 G Im0 S a w)
    (hn : ∀ S' a' w', K S' → RelE w0 G Im0 S' a' w' → Q .normal a' w') : (Code.region id ops true).wp P Q a w := by
  generalize preLen ops.toList = p0 at hd h
  simp only [drawOk, Bool.and_eq_true] at hd
  obtain ⟨⟨⟨hback, hpre⟩, htail⟩, hsel'⟩ := hd
  have hsel := noSelB_spec hsel'
  obtain ⟨n, tm, blk⟩ := S
  have hsome : ∀ o ∈ ops.toList.take p0, o.dst.isSome = true := fun o ho => by
    obtain ⟨i, hi⟩ := List.getElem?_of_mem ho
    obtain ⟨⟨d, h1, _⟩, _⟩ := preOk_spec hpre hi
    simp [h1]
  obtain ⟨vs, tmE, hch, htl⟩ := awpPre_chain _ tm _ hsome h
  obtain ⟨pre, hpreE⟩ : ∃ pre, pre = ops.toList.take p0 := ⟨_, rfl⟩
  rw [← hpreE] at hpre hch hsome
  have hdist : Distinct pre := fun i j o o' d hi hj ho ho' => by
    rcases Nat.lt_trichotomy i j with hlt | he | hgt
    · obtain ⟨⟨d', h1, h2⟩, _⟩ := preOk_spec hpre hi
      rw [ho] at h1; cases h1
      exact absurd ho' (h2 j o' hlt hj)
    · exact he
    · obtain ⟨⟨d', h1, h2⟩, _⟩ := preOk_spec hpre hj
      rw [ho'] at h1; cases h1
      exact absurd ho (h2 i o hgt hi)
  obtain ⟨hat, hend⟩ := hch.at hdist
  have hvl := hch.length
  have hps : pre.length ≤ ops.size := by rw [hpreE]; simp; omega
  have hpp : pre.length = min p0 ops.size := by rw [hpreE]; simp
  have hpget : ∀ i, i < pre.length → pre[i]? = ops[i]? := fun i hi => by
    rw [hpreE, List.getElem?_take_of_lt (by omega)]; simp
  have hbk : ∀ (i : Nat) (o : Oper), ops[i]? = some o → ∀ e ∈ o.after, Region.binds .any e = true → e.on < i := fun i o ho e he hb => by
    have := backAll_spec hback (i := i) (o := o) (by simpa using ho) e he hb
    omega
  have htk : ∀ (i : Nat) (o : Oper), pre.length ≤ i → ops[i]? = some o → ∀ j, j < i → ∃ f, reachB ops.toList f o j = true := fun i o hi ho j hj => by
    have hlt : i < ops.size := (Array.getElem?_eq_some_iff.1 ho).1
    have hp0 : pre.length = p0 := by omega
    have := tailOk_spec htail (i := i - p0) (o := o) (by rw [List.getElem?_drop, show p0 + (i - p0) = i from by omega]; simpa using ho) j (by omega)
    exact this
  -- whatever has come up: what it waits for has come up
  let Closed (listed : Array Bool) : Prop := ∀ (i : Nat) (o : Oper), i < ops.size → listed.getD i true = true → ops[i]? = some o → ∀ e ∈ o.after, Region.binds .any e = true → listed.getD e.on true = true
  have main : ∀ (fuel : Nat) (listed : Array Bool) (a : Act) (w : World), listed.size = ops.size → toCome ops.size listed = fuel → Closed listed →
      (((∃ i, i < pre.length ∧ listed.getD i true = false) ∧ (∀ k, pre.length ≤ k → k < ops.size → listed.getD k true = false) ∧
          ∃ tm', AtSet pre vs tm (fun j => listed.getD j true) tm' ∧ RelE w0 G Im0 ⟨n, tm', blk⟩ a w) ∨
        ∃ m, pre.length ≤ m ∧ m ≤ ops.size ∧ (∀ k, k < ops.size → listed.getD k true = decide (k < m)) ∧ ∃ S, awpOps P τ ops (ops.toList.drop m) S K ∧ RelE w0 G Im0 S a w) →
      wpAny P .any ops Q fuel listed a w := by
    intro fuel
    induction fuel with
    | zero =>
      intro listed a w hsz hcnt hcl hph
      have hall : ∀ k, k < ops.size → listed.getD k true = true := fun k hk => by
        have := List.countP_eq_zero.1 hcnt k (List.mem_range.2 hk)
        simpa using this
      have hnil : Region.ready .any ops listed = [] := by
        cases hr : Region.ready .any ops listed with
        | nil => rfl
        | cons x xs =>
          have : x ∈ Region.ready .any ops listed := by rw [hr]; simp
          obtain ⟨h1, o, ho, _⟩ := mem_ready.1 this
          rw [hall x (Array.getElem?_eq_some_iff.1 ho).1] at h1; cases h1
      refine ⟨hnil, ?_⟩
      rcases hph with ⟨⟨i, hi, hl⟩, _⟩ | ⟨m, hm1, hm2, hml, S, hS, hRS⟩
      · rw [hall i (by omega)] at hl; cases hl
      · have : m = ops.size := by
          rcases Nat.lt_or_ge m ops.size with hlt | hge
          · have h1 := hml m hlt
            rw [hall m hlt] at h1
            simp at h1
          · omega
        subst this
        rw [List.drop_of_length_le (by simp)] at hS
        exact hn S a w hS hRS
    | succ fuel ih =>
      intro listed a w hsz hcnt hcl hph
      have hex : ∃ i, i < ops.size ∧ listed.getD i true = false := by
        by_cases hx : ∃ i, i < ops.size ∧ listed.getD i true = false
        · exact hx
        · exfalso
          have : toCome ops.size listed = 0 := List.countP_eq_zero.2 (fun k hk => by
            have hk' := List.mem_range.1 hk
            cases hlk : listed.getD k true with
            | true => simp
            | false => exact absurd ⟨k, hk', hlk⟩ hx)
          omega
      have hready : ∀ {i o}, ops[i]? = some o → listed.getD i true = false → (∀ e ∈ o.after, Region.binds .any e = true → listed.getD e.on true = true) → i ∈ Region.ready .any ops listed := fun {i o} ho hl hed =>
        mem_ready.2 ⟨hl, o, ho, fun e he hb => getD_false_of (by have := hbk i o ho e he hb; have := (Array.getElem?_eq_some_iff.1 ho).1; omega) (hed e he hb)⟩
      refine ⟨fun hnil => ?_, fun i hi => ?_⟩
      · exfalso
        obtain ⟨i0, h1, h2⟩ := hex
        obtain ⟨m, hm1, hm2, hm3⟩ := least (p := fun i => i < ops.size ∧ listed.getD i true = false) i0 ⟨h1, h2⟩
        have hmem := hready (Array.getElem?_eq_getElem hm2.1) hm2.2 (fun e he hb => by
          have hlt := hbk m _ (Array.getElem?_eq_getElem hm2.1) e he hb
          cases hle : listed.getD e.on true with
          | true => rfl
          | false => exact absurd ⟨by omega, hle⟩ (hm3 e.on hlt))
        rw [hnil] at hmem; cases hmem
      · obtain ⟨hl, o, ho, hed⟩ := mem_ready.1 hi
        have hilt : i < ops.size := (Array.getElem?_eq_some_iff.1 ho).1
        have hedT : ∀ e ∈ o.after, Region.binds .any e = true → listed.getD e.on true = true := fun e he hb => getD_true_of (hed e he hb)
        have hcnt' : toCome ops.size (listed.setIfInBounds i true) = fuel := by have := toCome_set hilt hsz hl; omega
        have hget : ∀ j, (listed.setIfInBounds i true).getD j true = if j = i then true else listed.getD j true := fun j => by
          by_cases e : j = i
          · subst e; simp [hsz, hilt]
          · rw [if_neg e, getD_set_ne true (fun e' => e e'.symm)]
        have hgetT : ∀ j, listed.getD j true = true → (listed.setIfInBounds i true).getD j true = true := fun j hj => by rw [hget]; split <;> simp_all
        have hcl' : Closed (listed.setIfInBounds i true) := fun j o' hj hlj ho' e he hb => by
          refine hgetT _ ?_
          rw [hget] at hlj
          by_cases e' : j = i
          · subst e'; rw [ho] at ho'; cases ho'; exact hedT e he hb
          · rw [if_neg e'] at hlj; exact hcl j o' hj hlj ho' e he hb
        have hreach : ∀ j, (∃ f, reachB ops.toList f o j = true) → listed.getD j true = true := fun j ⟨f, hf⟩ =>
          reach_listed (L := ops.toList) (listed := fun j => listed.getD j true = true) (fun j o' hj ho' => by
            have ho'' : ops[j]? = some o' := by simpa using ho'
            exact hcl j o' (Array.getElem?_eq_some_iff.1 ho'').1 hj ho'') f o j hedT hf
        have hsz' : (listed.setIfInBounds i true).size = ops.size := by simpa using hsz
        unfold wpOp
        simp only [ho]
        rcases hph with ⟨⟨i1, hi1, hli1⟩, htail0, tm', hat', hRel⟩ | ⟨m, hm1, hm2, hml, S, hS, hRS⟩
        · -- in the first part
          have hip : i < pre.length := by
            rcases Nat.lt_or_ge i pre.length with h1 | h1
            · exact h1
            · have := hreach i1 (htk i o h1 ho i1 (by omega))
              rw [hli1] at this; cases this
          have hpi : pre[i]? = some o := by rw [hpget i hip]; exact ho
          obtain ⟨v, hv⟩ : ∃ v, vs[i]? = some v := ⟨vs[i]'(by omega), List.getElem?_eq_getElem (by omega)⟩
          obtain ⟨d, tmi, hdst, hdn, hok, hati⟩ := hat i o v hpi hv
          obtain ⟨_, hlook⟩ := preOk_spec hpre hpi
          -- the slots that it looks at hold what they hold in the text's order
          have hsame : ∀ t ∈ o.looksAt ops, tm' t = tmi t := fun t ht => by
            by_cases hw : ∃ (j : Nat) (o' : Oper), pre[j]? = some o' ∧ o'.dst = some t
            · obtain ⟨j, o', hj, ho't⟩ := hw
              obtain ⟨u, hu⟩ : ∃ u, vs[j]? = some u := by
                have hjl := (List.getElem?_eq_some_iff.1 hj).1
                exact ⟨vs[j]'(by omega), List.getElem?_eq_getElem (by omega)⟩
              have hjl := (List.getElem?_eq_some_iff.1 hj).1
              rcases hlook t ht j o' hj ho't with ⟨h1, e, he, hb, hon⟩ | ⟨h1, e, he, hb, hon⟩
              · have hlj : listed.getD j true = true := by rw [← hon]; exact hedT e he hb
                rw [hat'.1 j o' u t hj hu ho't hlj, hati.1 j o' u t hj hu ho't (by simpa using h1)]
              · have hlj : listed.getD j true = false := by
                  cases hlj : listed.getD j true with
                  | false => rfl
                  | true =>
                    have := hcl j o' (by omega) hlj (by rw [← hpget j hjl]; exact hj) e he hb
                    rw [hon, Nat.zero_add, hl] at this; cases this
                rw [hat'.2 t (fun k x hk hEk hx => ?_), hati.2 t (fun k x hk hEk hx => ?_)]
                · have := hdist k j x o' t hk hj hx ho't
                  subst this
                  simp at hEk; omega
                · have := hdist k j x o' t hk hj hx ho't
                  subst this
                  simp only [hlj] at hEk; cases hEk
            · rw [hat'.2 t (fun k x hk _ hx => hw ⟨k, x, hk, hx⟩), hati.2 t (fun k x hk _ hx => hw ⟨k, x, hk, hx⟩)]
          have hevs : ∀ x ∈ o.op.operands, ev ⟨n, tmi, blk⟩ x = ev ⟨n, tm', blk⟩ x := fun x hx => by
            cases x with
            | tmp t => exact (hsame t (looks_op hx rfl)).symm
            | _ => rfl
          -- what stands behind it
          have next : ∀ {a' w'}, RelE w0 G Im0 ⟨n, updT tm' d v, blk⟩ a' w' → wpAny P .any ops Q fuel (listed.setIfInBounds i true) a' w' := fun {a' w'} hR' => by
            have hatn : AtSet pre vs tm (fun j => (listed.setIfInBounds i true).getD j true) (updT tm' d v) := by
              refine ⟨fun j x u t hj hu hx hE => ?_, fun t ht => ?_⟩
              · by_cases e : j = i
                · subst e
                  rw [hpi] at hj; cases hj
                  rw [hv] at hu; cases hu
                  rw [hdst] at hx; cases hx
                  exact updT_same _ _ _
                · have hne : t ≠ d := fun e' => e (hdist j i x o t hj hpi hx (by rw [hdst, e']))
                  rw [updT_ne _ hne]
                  refine hat'.1 j x u t hj hu hx ?_
                  simp only [hget, if_neg e] at hE
                  exact hE
              · have hne : t ≠ d := fun e' => ht i o hpi (by simp only [hget, if_true]) (by rw [hdst, e'])
                rw [updT_ne _ hne]
                exact hat'.2 t (fun j x hj hE => ht j x hj (hgetT j hE))
            refine ih _ a' w' hsz' hcnt' hcl' ?_
            by_cases hleft : ∃ j, j < pre.length ∧ (listed.setIfInBounds i true).getD j true = false
            · refine .inl ⟨hleft, fun k hk1 hk2 => ?_, _, hatn, hR'⟩
              rw [hget, if_neg (by omega)]; exact htail0 k hk1 hk2
            · have hall : ∀ j, j < pre.length → (listed.setIfInBounds i true).getD j true = true := fun j hj => by
                cases hlj : (listed.setIfInBounds i true).getD j true with
                | true => rfl
                | false => exact absurd ⟨j, hj, hlj⟩ hleft
              have htm : updT tm' d v = tmE := by
                funext t
                by_cases hw : ∃ (j : Nat) (o' : Oper), pre[j]? = some o' ∧ o'.dst = some t
                · obtain ⟨j, o', hj, ho't⟩ := hw
                  have hjl := (List.getElem?_eq_some_iff.1 hj).1
                  obtain ⟨u, hu⟩ : ∃ u, vs[j]? = some u := ⟨vs[j]'(by omega), List.getElem?_eq_getElem (by omega)⟩
                  rw [hatn.1 j o' u t hj hu ho't (hall j hjl), hend.1 j o' u t hj hu ho't rfl]
                · rw [hatn.2 t (fun k x hk _ hx => hw ⟨k, x, hk, hx⟩), hend.2 t (fun k x hk _ hx => hw ⟨k, x, hk, hx⟩)]
              rw [htm] at hR'
              refine .inr ⟨pre.length, Nat.le_refl _, hps, fun k hk => ?_, ⟨n, tmE, blk⟩, ?_, hR'⟩
              · by_cases hkp : k < pre.length
                · rw [hall k hkp]; simp [hkp]
                · rw [hget, if_neg (by omega), htail0 k (by omega) hk]; simp [hkp]
              · have : ops.toList.drop pre.length = ops.toList.drop p0 := by
                  rcases Nat.lt_or_ge p0 ops.size with h1 | h1
                  · rw [hpp, Nat.min_eq_left (by omega)]
                  · rw [List.drop_of_length_le (by simp; omega), List.drop_of_length_le (by simp; omega)]
                rw [this]; exact htl
          obtain ⟨ρ, Im, hRel'⟩ := hRel
          have runIt : pvalD P τ (ev ⟨n, tmi, blk⟩) blk o.op (· = v) → o.wp P a w (wpAny P .any ops Q fuel (listed.setIfInBounds i true)) Q := fun hpv => by
            rw [pvalD_congr hevs] at hpv
            obtain ⟨av, e, _, haf⟩ := pval_sound hτ hRel' (pval_of_D hpv)
            subst e
            refine haf _ _ fun u w' Im' hR' hu => next ⟨ρ, Im', ?_⟩
            rw [hdst]
            exact hR'.put hdn hu
          have skipIt : v = .tup [] → wpAny P .any ops Q fuel (listed.setIfInBounds i true) (a.put o.dst undef) w := fun e => next ⟨ρ, Im, by
            rw [hdst, e]
            exact hRel'.put hdn undR⟩
          unfold OpOk at hok
          cases hg : o.guard with
          | none =>
            simp only [hg] at hok
            have hw : Region.wanted o (yielded ops a.tmps) = true := by simp [Region.wanted, hg]
            rw [if_pos hw]
            exact .inl (runIt hok)
          | some gw =>
            obtain ⟨g, want⟩ := gw
            simp only [hg] at hok
            obtain ⟨t, ht, hok⟩ := hok
            have htl : t ∈ o.looksAt ops := List.mem_append_right _ (by simp [hg, ht])
            rcases hok with ⟨c, hc, h1, h2⟩ | ⟨hc, hv0⟩
            case inr =>
              have hw := wanted_und (S := ⟨n, tm', blk⟩) hg ht hRel' (show tm' t = _ by rw [hsame t htl]; exact hc)
              rw [hw, if_neg (by decide)]; exact skipIt hv0
            have hw := wanted_of (S := ⟨n, tm', blk⟩) hg ht hRel' (show tm' t = _ by rw [hsame t htl]; exact hc)
            rw [hw]
            by_cases e : c = want
            · rw [if_pos (by simp [e])]; exact .inl (runIt (h1 e))
            · rw [if_neg (by simp [e])]; exact skipIt (h2 e)
        · -- in the rest
          have him : i = m := by
            rcases Nat.lt_trichotomy i m with h1 | h1 | h1
            · have := hml i hilt
              rw [hl] at this; simp [h1] at this
            · exact h1
            · have h2 := hreach m (htk i o (by omega) ho m h1)
              rw [hml m (by omega)] at h2
              simp at h2
          subst him
          have hdrop : ops.toList.drop i = o :: ops.toList.drop (i + 1) := by
            have hlt : i < ops.toList.length := by simpa using hilt
            rw [List.drop_eq_getElem_cons hlt]
            congr 1
            have := Array.getElem?_eq_some_iff.1 ho
            obtain ⟨_, h2⟩ := this
            simpa using h2
          rw [hdrop] at hS
          obtain ⟨ρ, Im, hR0⟩ := hRS
          have key := awpOps_step (Q := Q) (K' := wpAny P .any ops Q fuel (listed.setIfInBounds i true)) hτ hS hR0 (fun S' a' w' hS' hR' => by
            refine ih _ a' w' hsz' hcnt' hcl' (.inr ⟨i + 1, by omega, by omega, fun k hk => ?_, S', hS', hR'⟩)
            rw [hget]
            by_cases e : k = i
            · subst e; simp
            · rw [if_neg e, hml k hk]
              by_cases h1 : k < i
              · simp [h1, show k < i + 1 by omega]
              · simp [h1, show ¬ k < i + 1 by omega])
          split
          · rename_i hw; rw [if_pos hw] at key; exact .inl key
          · rename_i hw; rw [if_neg hw] at key; exact key
  refine wp_region_any hm (main ops.size _ a _ (by simp) ?_ (fun i o hi hl => ?_) ?_)
  · unfold toCome
    rw [List.countP_eq_length.2 (fun k hk => by have := List.mem_range.1 hk; simp [this]), List.length_range]
  · simp [hi] at hl
  · have hR' : RelE w0 G Im0 ⟨n, tm, blk⟩ a { w with drawn := w.drawn + 1 } := by
      obtain ⟨ρ, Im, hR0⟩ := hR
      exact ⟨ρ, Im, hR0.after (w' := { w with drawn := w.drawn + 1 }) (fun _ _ => rfl) (Nat.le_refl _) rfl rfl rfl (fun _ _ x => x) (fun _ _ x => .inl x)⟩
    by_cases h0 : 0 < pre.length
    · exact .inl ⟨⟨0, h0, by simp [show 0 < ops.size by omega]⟩, fun k _ hk => by simp [hk], tm, ⟨fun j o v d hj _ _ hE => by
        have := (List.getElem?_eq_some_iff.1 hj).1
        simp [show j < ops.size by omega] at hE, fun t _ => rfl⟩, hR'⟩
    · have hp0 : pre = [] := List.eq_nil_of_length_eq_zero (by omega)
      have hv0 : vs = [] := List.eq_nil_of_length_eq_zero (by omega)
      subst hv0
      rw [hp0] at hch
      have : tmE = tm := hch
      subst this
      refine .inr ⟨0, by omega, Nat.zero_le _, fun k hk => by simp [hk], ⟨n, tmE, blk⟩, ?_, hR'⟩
      have : ops.toList.drop 0 = ops.toList.drop p0 := by
        rcases Nat.eq_zero_or_pos p0 with h1 | h1
        · rw [h1]
        · have : ops.size = 0 := by omega
          rw [List.drop_of_length_le (by simp [this]), List.drop_of_length_le (by simp [this])]
      rw [this]; exact htl
end
end Vg
