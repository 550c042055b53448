/- A region that draws its order: one walk in the order of the text serves every order. -/
import Derived.Test.YtlopkgjiccppfaaDoorSound15
namespace Vg
open Go

section
variable {P : Program} {τ : Tys} {Im Im' : Nat → Nat → Prop} {ρ ρ' ρ2 : Rho} {h h' : Array Obj} {w w' : World}
variable {w0 : World} {G : GP} {Im0 : Nat → Nat → Prop} {S : AState} {a : Act} {n : Nat} {tm : Nat → AV} {blk : Nat → Option Blk}
variable [hT : Nonempty (TabH w0.heap Im0)]

/-! ### an operation that only computes has one value -/
theorem aload_ex {i : TyI} {p : AV} {K : AV → Prop} (h : aload i blk p K) : ∃ av, K av ∧ aload i blk p (· = av) := by
  unfold aload at h ⊢
  split at h
  · split at h
    · rename_i e
      (try simp only)
      cases hag : i.agg with
      | true =>
        simp only [hag] at h ⊢
        split at h
        · rename_i e2; (try simp only [e2]); exact ⟨_, h, rfl⟩
        · exact h.elim
      | false =>
        simp only [hag] at h ⊢
        split at h
        · rename_i e2; (try simp only [e2]); exact ⟨_, h, rfl⟩
        · exact h.elim
    · exact h.elim
  · cases hag : i.agg with
    | true =>
      simp only [hag] at h ⊢
      split at h
      · rename_i e2; (try simp only [e2]); exact ⟨_, h, rfl⟩
      · exact h.elim
    | false =>
      simp only [hag] at h ⊢
      split at h
      · rename_i e2; (try simp only [e2]); exact ⟨_, h, rfl⟩
      · exact h.elim
  · split at h
    · rename_i e
      (try simp only)
      split at h
      · rename_i e1
        (try simp only [e1])
        obtain ⟨hk, h⟩ := h
        cases hag : i.agg with
        | true =>
          simp only [hag] at h ⊢
          split at h
          · rename_i e2; (try simp only [e2]); exact ⟨_, h, hk, rfl⟩
          · exact h.elim
        | false =>
          simp only [hag] at h ⊢
          split at h
          · rename_i e2; (try simp only [e2]); exact ⟨_, h, hk, rfl⟩
          · exact h.elim
      · exact h.elim
    · rename_i e
      (try simp only)
      split at h
      · rename_i e1
        (try simp only [e1])
        obtain ⟨hk, h⟩ := h
        cases hag : i.agg with
        | true =>
          simp only [hag] at h ⊢
          split at h
          · rename_i e2; (try simp only [e2]); exact ⟨_, h, hk, rfl⟩
          · exact h.elim
        | false =>
          simp only [hag] at h ⊢
          split at h
          · rename_i e2; (try simp only [e2]); exact ⟨_, h, hk, rfl⟩
          · exact h.elim
      · exact h.elim
    · exact h.elim
  · exact h.elim

theorem abin_ex {d : Option TyI} {op : BinOp} {p q : AV} {K : AV → Prop} (h : abin d op p q K) : ∃ av, K av ∧ abin d op p q (· = av) := by
  unfold abin at h ⊢
  split at h
  · rename_i k a k' b
    split at h
    · exact ⟨_, h.2, h.1, rfl⟩
    · exact ⟨_, h.2, h.1, rfl⟩
    · rename_i hn1 hn2
      cases hd : decide (k = k') with
      | false => simp [hd] at h
      | true =>
        simp only [hd] at h ⊢
        split at h <;> first | exact ⟨_, h, rfl⟩ | exact ⟨_, h.2, h.1, rfl⟩ | exact h.elim
  · split at h <;> first | exact ⟨_, h, rfl⟩ | exact ⟨_, h.2, h.1, rfl⟩ | exact h.elim
  · split at h
    · rename_i i
      cases hdd : i.desc <;> simp only [hdd] at h ⊢ <;> first | exact h.elim | skip
      split at h <;> first | exact ⟨_, h, rfl⟩ | exact h.elim
    · exact h.elim
  · exact h.elim

theorem abinA_ex {P : Program} {τ : Tys} {op : BinOp} {T : Nat} {p q : AV} {K : AV → Prop} (h : abinA P τ op T p q K) : ∃ av, K av ∧ abinA P τ op T p q (· = av) := by
  cases p <;> cases q <;> first
    | (simp only [abinA] at h ⊢; exact abin_ex h)
    | skip
  rename_i xs ys
  simp only [abinA, aaggEq] at h ⊢
  cases hxs : intsOf xs with
  | none => simp [hxs] at h
  | some a =>
    cases hys : intsOf ys with
    | none => simp [hxs, hys] at h
    | some b =>
      simp only [hxs, hys] at h ⊢
      cases hb : Nat.beq a.length b.length with
      | false => simp [hb] at h
      | true =>
        simp only [hb] at h ⊢
        split at h <;> first | exact ⟨_, h.2, h.1, rfl⟩ | exact h.elim

theorem aun_ex {op : UnOp} {p : AV} {K : AV → Prop} (h : aun op p K) : ∃ av, K av ∧ aun op p (· = av) := by
  unfold aun at h ⊢
  split at h
  · split at h <;> first | exact ⟨_, h, rfl⟩ | exact h.elim
  · split at h <;> first | exact ⟨_, h, rfl⟩ | exact h.elim
  · exact h.elim

theorem aconv_ex {s d : Option TyI} {p : AV} {K : AV → Prop} (h : aconv s d p K) : ∃ av, K av ∧ aconv s d p (· = av) := by
  unfold aconv at h ⊢
  split at h
  · rename_i i
    split at h
    · rename_i e
      (try simp only)
      split at h <;> first | exact ⟨_, h, rfl⟩ | exact h.elim
    · exact h.elim
  · exact h.elim

theorem abinE_ex {op : BinOp} {T : Nat} {p q : AV} {y : Operand} {K : AV → Prop} (h : abinE P τ op T p y q K) : ∃ av, K av ∧ abinE P τ op T p y q (· = av) := by
  unfold abinE at h ⊢
  split at h
  · unfold aerr at h ⊢
    split at h
    · split at h
      · split at h <;> first | exact ⟨_, h, rfl⟩ | exact h.elim
      · exact h.elim
    · exact h.elim
  · exact abinA_ex h

theorem aconvV_ex {s d : Option TyI} {p : AV} {K : AV → Prop} (h : aconvV τ blk s d p K) : ∃ av, K av ∧ aconvV τ blk s d p (· = av) := by
  unfold aconvV at h ⊢
  split at h
  · split at h
    · rename_i hb
      unfold aconvB at h ⊢
      split at h
      · rename_i hbs
        exact ⟨_, h, by simp only⟩
      · exact h.elim
    · exact h.elim
  · unfold aconvB at h ⊢
    split at h
    · rename_i hbs
      exact ⟨_, h, by simp only⟩
    · exact h.elim
  · exact aconv_ex h

theorem alenD_ex {i : Option TyI} {p : AV} {K : AV → Prop} (h : alenD blk i p K) : ∃ av, K av ∧ alenD blk i p (· = av) := by
  unfold alenD at h ⊢
  split at h
  · rename_i i
    split at h
    · rename_i e
      (try simp only)
      split at h
      · exact ⟨_, h, rfl⟩
      · exact ⟨_, h, rfl⟩
      · split at h
        · rename_i e2; (try simp only [e2]); exact ⟨_, h, rfl⟩
        · rename_i e2; (try simp only [e2]); exact ⟨_, h, rfl⟩
        · exact h.elim
      · exact h.elim
    · rename_i e
      (try simp only)
      split at h <;> first | exact ⟨_, h, rfl⟩ | exact h.elim
    · exact h.elim
  · exact h.elim

theorem alen_of_D {i : Option TyI} {p : AV} {K : AV → Prop} (h : alenD blk i p K) : alen blk i p K := by
  unfold alenD at h
  unfold alen
  split at h
  · rename_i i
    split at h
    · rename_i e
      (try simp only [e])
      split at h
      · exact fun _ => h
      · exact h
      · split at h
        · rename_i e2; (try simp only [e2]); exact fun _ => h
        · rename_i e2; (try simp only [e2]); exact fun _ => h
        · exact h.elim
      · exact h.elim
    · rename_i e
      (try simp only [e])
      split at h
      · exact h
      · exact h.elim
    · exact h.elim
  · exact h.elim

theorem abuild_ex {fl : List (Nat × Nat)} {e : Operand → AV} : ∀ (parts : List (Nat × Operand)) (cells : List AV) (K : List AV → Prop), abuild τ fl e parts cells K →
    ∃ out, K out ∧ abuild τ fl e parts cells (· = out)
  | [], cells, K, h => ⟨cells, h, rfl⟩
  | (f, x) :: rest, cells, K, h => by
    simp only [abuild] at h ⊢
    split at h
    · rename_i e1
      (try simp only [e1])
      split at h
      · rename_i i e2
        (try simp only [e2])
        cases hag : i.agg with
        | true =>
          simp only [hag] at h ⊢
          split at h
          · rename_i e3
            (try simp only [e3])
            split at h
            · rename_i e4 e5
              (try simp only [e4, e5])
              exact abuild_ex rest _ K h
            · exact h.elim
          · exact h.elim
        | false =>
          simp only [hag] at h ⊢
          split at h
          · rename_i e4 e5 e6
            (try simp only [e4, e5, e6])
            exact abuild_ex rest _ K h
          · exact h.elim
      · exact h.elim
    · exact h.elim
theorem abuild_mono {fl : List (Nat × Nat)} {e : Operand → AV} {K K' : List AV → Prop} (hK : ∀ l, K l → K' l) : ∀ (parts : List (Nat × Operand)) (cells : List AV), abuild τ fl e parts cells K → abuild τ fl e parts cells K'
  | [], cells, h => hK _ h
  | (f, x) :: rest, cells, h => by
    simp only [abuild] at h ⊢
    split at h
    · rename_i e1
      (try simp only [e1])
      split at h
      · rename_i i e2
        (try simp only [e2])
        cases hag : i.agg with
        | true =>
          simp only [hag] at h ⊢
          split at h
          · rename_i e3
            (try simp only [e3])
            split at h
            · rename_i e4 e5
              (try simp only [e4, e5])
              exact abuild_mono hK rest _ h
            · exact h.elim
          · exact h.elim
        | false =>
          simp only [hag] at h ⊢
          split at h
          · rename_i e4 e5 e6
            (try simp only [e4, e5, e6])
            exact abuild_mono hK rest _ h
          · exact h.elim
      · exact h.elim
    · exact h.elim

theorem aslice_ex {i : Option TyI} {x lo hi : Option AV} {K : AV → Prop} (h : aslice τ i x lo hi K) : ∃ av, K av ∧ aslice τ i x lo hi (· = av) := by
  unfold aslice at h ⊢
  split at h
  · rename_i i
    split at h
    · split at h
      · rename_i e
        (try simp only)
        split at h <;> first | exact ⟨_, h, rfl⟩ | exact ⟨_, h.2, h.1, rfl⟩ | exact h.elim
      · exact h.elim
    · split at h
      · rename_i e
        (try simp only)
        split at h
        · rename_i e2
          (try simp only [e2])
          split at h
          · rename_i e3
            (try simp only [e3])
            split at h <;> first | exact ⟨_, h, rfl⟩ | exact ⟨_, h.2, h.1, rfl⟩ | exact h.elim
          · exact h.elim
        · exact h.elim
      · exact h.elim
    · exact h.elim
  · exact h.elim

theorem pvalD_ex {e : Operand → AV} {op : Op} {K : AV → Prop} (h : pvalD P τ e blk op K) : ∃ av, K av ∧ pvalD P τ e blk op (· = av) := by
  cases op <;> simp only [pvalD, pval] at h ⊢ <;> try exact h.elim
  case move x => exact ⟨_, h, rfl⟩
  case assign x => exact ⟨_, h, rfl⟩
  case pick c x y =>
    split at h
    · rename_i e1; (try simp only [e1]); exact ⟨_, h, rfl⟩
    · rename_i e1; (try simp only [e1]); exact ⟨_, h, rfl⟩
    · exact h.elim
  case load T p =>
    split at h
    · rename_i e1; (try simp only [e1]); exact aload_ex h
    · exact h.elim
  case nilCheck x =>
    split at h <;> rename_i e1 <;> first | exact h.elim | ((try simp only [e1]); exact ⟨_, h, rfl⟩)
  case binOp => exact abinE_ex h
  case unOp => exact aun_ex h
  case convert => exact aconvV_ex h
  case fieldAddr T x f =>
    split at h
    · rename_i e1; (try simp only [e1])
      split at h
      · rename_i e2; (try simp only [e2])
        split at h
        · rename_i e3; (try simp only [e3])
          split at h <;> rename_i e4 <;> first | exact h.elim | ((try simp only [e4]); exact ⟨_, h, rfl⟩)
        · exact h.elim
      · exact h.elim
    · exact h.elim
  case indexAddr T x ix =>
    split at h
    · rename_i e1; (try simp only [e1])
      split at h
      · rename_i e2; (try simp only [e2])
        split at h
        · rename_i e3; (try simp only [e3])
          split at h
          · rename_i e4; (try simp only [e4])
            split at h
            · rename_i e5; (try simp only [e5])
              split at h
              · rename_i e6; (try simp only [e6]); exact ⟨_, h.2, h.1, rfl⟩
              · exact h.elim
            · rename_i e5; (try simp only [e5])
              split at h
              · rename_i e7; (try simp only [e7])
                split at h
                · rename_i e6; (try simp only [e6]); exact ⟨_, h.2, h.1, rfl⟩
                · exact h.elim
              · rename_i e7; (try simp only [e7])
                split at h
                · rename_i e6; (try simp only [e6]); exact ⟨_, h.2, h.1, rfl⟩
                · exact h.elim
              · exact h.elim
            · exact h.elim
          · exact h.elim
        · exact h.elim
      · exact h.elim
    · exact h.elim
  case index T x ix =>
    split at h
    · rename_i e1; (try simp only [e1])
      split at h
      · rename_i e2; (try simp only [e2])
        split at h
        · rename_i e3; (try simp only [e3])
          split at h
          · rename_i e4; (try simp only [e4]); exact ⟨_, h.2, h.1, rfl⟩
          · exact h.elim
        · exact h.elim
      · exact h.elim
    · exact h.elim
  case extract t ix =>
    split at h
    · rename_i e1; (try simp only [e1])
      split at h
      · rename_i e2; (try simp only [e2]); exact ⟨_, h, rfl⟩
      · exact h.elim
    · exact h.elim
  case build T parts =>
    split at h
    · rename_i e1; (try simp only [e1])
      split at h
      · rename_i e2; (try simp only [e2])
        obtain ⟨out, h1, h2⟩ := abuild_ex _ _ _ h
        exact ⟨_, h1, abuild_mono (fun l hl => by subst hl; rfl) _ _ h2⟩
      · exact h.elim
    · exact h.elim
  case slice T x lo hi mx =>
    cases mx with
    | some m => exact h.elim
    | none => exact aslice_ex h
  case call c =>
    obtain ⟨callee, args, ts⟩ := c
    cases callee with
    | value f =>
      simp only at h ⊢
      split at h
      · rename_i e1; (try simp only [e1])
        unfold pcall at h ⊢
        split at h
        · rename_i e2; (try simp only)
          obtain ⟨X, h1, h2, h3⟩ := h
          exact ⟨X, h3, X, h1, h2, rfl⟩
        · exact h.elim
      · exact h.elim
    | invoke => exact h.elim
    | builtin b =>
      cases b <;> simp only at h ⊢ <;> try exact h.elim
      case len =>
        split at h
        · exact alenD_ex h
        · exact h.elim
      case min =>
        have h' : pval P τ e blk (.call { callee := .builtin .min, args := args, argTypes := ts }) K := h
        show ∃ av, K av ∧ pval P τ e blk (.call { callee := .builtin .min, args := args, argTypes := ts }) (· = av)
        simp only [pval] at h' ⊢
        split at h'
        · split at h'
          · exact ⟨_, h', rfl⟩
          · exact h'.elim
        · exact h'.elim

theorem pval_of_D {e : Operand → AV} {op : Op} {K : AV → Prop} (h : pvalD P τ e blk op K) : pval P τ e blk op K := by
  cases op <;> try exact h
  case call c =>
    obtain ⟨callee, args, ts⟩ := c
    cases callee with
    | builtin b =>
      cases b <;> try exact h
      simp only [pvalD, pval] at h ⊢
      split at h
      · exact alen_of_D h
      · exact h.elim
    | _ => exact h

/-! ### it looks at its operands alone -/
theorem abuild_congr {fl : List (Nat × Nat)} {e e' : Operand → AV} : ∀ (parts : List (Nat × Operand)) (cells : List AV) (K : List AV → Prop), (∀ x ∈ parts.map (·.2), e x = e' x) → abuild τ fl e parts cells K = abuild τ fl e' parts cells K
  | [], _, _, _ => rfl
  | (f, x) :: rest, cells, K, he => by
    have h1 : e x = e' x := he x (by simp)
    simp only [abuild, h1]
    have ih := fun cells => abuild_congr (fl := fl) (e := e) (e' := e') rest cells K (fun y hy => he y (by simp only [List.map_cons, List.mem_cons]; exact .inr hy))
    simp only [ih]

theorem pvalD_congr {e e' : Operand → AV} {op : Op} {K : AV → Prop} (he : ∀ x ∈ op.operands, e x = e' x) : pvalD P τ e blk op K = pvalD P τ e' blk op K := by
  cases op <;> simp only [Op.operands] at he <;> simp only [pvalD, pval]
  case build T ps =>
    split
    · split
      · rename_i l _
        exact abuild_congr _ _ _ (fun x hx => he x (by simpa using hx))
      · rfl
    · rfl
  case slice T x lo hi mx =>
    cases mx with
    | some m => rfl
    | none =>
      have hx : e x = e' x := he x (by simp)
      have hlo : lo.map e = lo.map e' := by cases lo with | none => rfl | some y => simp [he y (by simp)]
      have hhi : hi.map e = hi.map e' := by cases hi with | none => rfl | some y => simp [he y (by simp)]
      simp only [hx, hlo, hhi]
  case call c =>
    obtain ⟨callee, args, ts⟩ := c
    cases callee with
    | value f =>
      have hf : e f = e' f := he f (by simp [Call.operands])
      have ha : args.toList.map e = args.toList.map e' := List.map_congr_left (fun y hy => he y (by simp [Call.operands]; exact .inr (by simpa using hy)))
      simp only [hf, ha]
    | invoke r m => rfl
    | builtin b =>
      cases b <;> try rfl
      case min =>
        show pval P τ e blk (.call { callee := .builtin .min, args := args, argTypes := ts }) K = pval P τ e' blk (.call { callee := .builtin .min, args := args, argTypes := ts }) K
        simp only [pval]
        split
        · rename_i x y e1
          have hx : e x = e' x := he x (by
            have : x ∈ args.toList := by rw [e1]; simp
            simpa [Call.operands] using this)
          have hy : e y = e' y := he y (by
            have : y ∈ args.toList := by rw [e1]; simp
            simpa [Call.operands] using this)
          rw [hx, hy]
        · rfl
      simp only
      split
      · rename_i x T e1 e2
        have : e x = e' x := he x (by
          have : x ∈ args.toList := by rw [e1]; simp
          simpa [Call.operands] using this)
        rw [this]
      · rfl
  all_goals (first | rfl | (simp_all; done) | (simp only [List.mem_toArray, List.mem_cons, List.not_mem_nil, or_false] at he; simp_all))
end
end Vg
