/- A region that draws its order: one walk in the order of the text serves every order. -/
import Derived.Test.YtfhkodimclmcdaaGreatDoorSound15
namespace Vg
open Go
section
variable {P : Program} {τ : Tys} {Im Im' : Nat -> Nat -> Prop} {ρ ρ' ρ2 : Rho} {h h' : Array Obj} {w w' : World}
variable {w0 : World} {G : GP} {Im0 : Nat -> Nat -> Prop} {S : AState} {a : Act} {n : Nat} {tm : Nat -> AV} {blk : Nat -> Option Blk}
variable [hT : Nonempty (TabH w0.heap Im0)]
/-! ### an operation that only computes has one value -/
theorem aload_ex {i : TyI} {p : AV} {K : AV -> Prop} (h : wG i blk p K) : ∃ av,K av /\ wG i blk p (· = av) := by
 unfold wG at h ⊢
 split at h
 . split at h
   . rename_i e
     (try simp only)
     cases hag : i.agg with
     | true =>
      simp only [hag] at h ⊢
      split at h
      . rename_i e2;(try simp only [e2]);exact ⟨_,h,rfl⟩
      . exact h.elim
     | false =>
      simp only [hag] at h ⊢
      split at h
      . rename_i e2;(try simp only [e2]);exact ⟨_,h,rfl⟩
      . exact h.elim
   . exact h.elim
 . cases hag : i.agg with
   | true =>
    simp only [hag] at h ⊢
    split at h
    . rename_i e2;(try simp only [e2]);exact ⟨_,h,rfl⟩
    . exact h.elim
   | false =>
    simp only [hag] at h ⊢
    split at h
    . rename_i e2;(try simp only [e2]);exact ⟨_,h,rfl⟩
    . exact h.elim
 . split at h
   . rename_i e
     (try simp only)
     split at h
     . rename_i e1
       (try simp only [e1])
       obtain ⟨hk,h⟩ := h
       cases hag : i.agg with
       | true =>
        simp only [hag] at h ⊢
        split at h
        . rename_i e2;(try simp only [e2]);exact ⟨_,h,hk,rfl⟩
        . exact h.elim
       | false =>
        simp only [hag] at h ⊢
        split at h
        . rename_i e2;(try simp only [e2]);exact ⟨_,h,hk,rfl⟩
        . exact h.elim
     . exact h.elim
   . rename_i e
     (try simp only)
     split at h
     . rename_i e1
       (try simp only [e1])
       obtain ⟨hk,h⟩ := h
       cases hag : i.agg with
       | true =>
        simp only [hag] at h ⊢
        split at h
        . rename_i e2;(try simp only [e2]);exact ⟨_,h,hk,rfl⟩
        . exact h.elim
       | false =>
        simp only [hag] at h ⊢
        split at h
        . rename_i e2;(try simp only [e2]);exact ⟨_,h,hk,rfl⟩
        . exact h.elim
     . exact h.elim
   . exact h.elim
 . exact h.elim
theorem abin_ex {d : Option TyI} {op : BinOp} {p q : AV} {K : AV -> Prop} (h : jK d op p q K) : ∃ av,K av /\ jK d op p q (· = av) := by
 unfold jK at h ⊢
 split at h
 . rename_i k a k' b
   split at h
   . exact ⟨_,h.2,h.1,rfl⟩
   . exact ⟨_,h.2,h.1,rfl⟩
   . rename_i hn1 hn2
     cases hd : decide (k = k') with
     | false=>simp [hd] at h
     | true =>
      simp only [hd] at h ⊢
      split at h <;> first|exact ⟨_,h,rfl⟩|exact ⟨_,h.2,h.1,rfl⟩|exact h.elim
 . split at h <;> first|exact ⟨_,h,rfl⟩|exact ⟨_,h.2,h.1,rfl⟩|exact h.elim
 . split at h
   . rename_i i
     cases hdd : i.desc <;> simp only [hdd] at h ⊢ <;> first|exact h.elim|skip
     split at h <;> first|exact ⟨_,h,rfl⟩|exact h.elim
   . exact h.elim
 . exact h.elim
theorem qo5 {P : Program} {τ : Tys} {op : BinOp} {T : Nat} {p q : AV} {K : AV -> Prop} (h : abinA P τ op T p q K) : ∃ av,K av /\ abinA P τ op T p q (· = av) := by
 cases p <;> cases q <;> first|(simp only [abinA] at h ⊢;exact abin_ex h)|skip
 rename_i xs ys
 simp only [abinA,gZ] at h ⊢
 cases hxs : intsOf xs with
 | none=>simp [hxs] at h
 | some a =>
  cases hys : intsOf ys with
  | none=>simp [hxs,hys] at h
  | some b =>
   simp only [hxs,hys] at h ⊢
   cases hb : Nat.beq a.length b.length with
   | false=>simp [hb] at h
   | true =>
    simp only [hb] at h ⊢
    split at h <;> first|exact ⟨_,h.2,h.1,rfl⟩|exact h.elim
theorem aun_ex {op : UnOp} {p : AV} {K : AV -> Prop} (h : aun op p K) : ∃ av,K av /\ aun op p (· = av) := by
 unfold aun at h ⊢
 split at h
 . split at h <;> first|exact ⟨_,h,rfl⟩|exact h.elim
 . split at h <;> first|exact ⟨_,h,rfl⟩|exact h.elim
 . exact h.elim
theorem qoz {s d : Option TyI} {p : AV} {K : AV -> Prop} (h : nH s d p K) : ∃ av,K av /\ nH s d p (· = av) := by
 unfold nH at h ⊢
 split at h
 . rename_i i
   split at h
   . rename_i e
     (try simp only)
     split at h <;> first|exact ⟨_,h,rfl⟩|exact h.elim
   . exact h.elim
 . exact h.elim
theorem qo3 {op : BinOp} {T : Nat} {p q : AV} {y : Operand} {K : AV -> Prop} (h : zI P τ op T p y q K) : ∃ av,K av /\ zI P τ op T p y q (· = av) := by
 unfold zI at h ⊢
 split at h
 . unfold wM at h ⊢
   split at h
   . split at h
     . split at h <;> first|exact ⟨_,h,rfl⟩|exact h.elim
     . exact h.elim
   . exact h.elim
 . unfold uE at h ⊢
   split at h
   . split at h
     . split at h <;> first|exact ⟨_,h,rfl⟩|exact h.elim
     . exact h.elim
   . exact h.elim
 . unfold uE at h ⊢
   split at h
   . split at h
     . split at h <;> first|exact ⟨_,h,rfl⟩|exact h.elim
     . exact h.elim
   . exact h.elim
 . exact qo5 h
theorem qo1 {s d : Option TyI} {p : AV} {K : AV -> Prop} (h : iK τ blk s d p K) : ∃ av,K av /\ iK τ blk s d p (· = av) := by
 unfold iK at h ⊢
 split at h
 . split at h
   . rename_i hb
     unfold xM at h ⊢
     split at h
     . rename_i hbs
       exact ⟨_,h,by simp only⟩
     . exact h.elim
   . exact h.elim
 . unfold xM at h ⊢
   split at h
   . rename_i hbs
     exact ⟨_,h,by simp only⟩
   . exact h.elim
 . exact qoz h
theorem qos {i : Option TyI} {p : AV} {K : AV -> Prop} (h : uM blk i p K) : ∃ av,K av /\ uM blk i p (· = av) := by
 unfold uM at h ⊢
 split at h
 . rename_i i
   split at h
   . rename_i e
     (try simp only)
     split at h
     . exact ⟨_,h,rfl⟩
     . exact ⟨_,h,rfl⟩
     . split at h
       . rename_i e2;(try simp only [e2]);exact ⟨_,h,rfl⟩
       . rename_i e2;(try simp only [e2]);exact ⟨_,h,rfl⟩
       . exact h.elim
     . exact h.elim
   . rename_i e
     (try simp only)
     split at h <;> first|exact ⟨_,h,rfl⟩|exact h.elim
   . exact h.elim
 . exact h.elim
theorem qor {i : Option TyI} {p : AV} {K : AV -> Prop} (h : uM blk i p K) : vM blk i p K := by
 unfold uM at h
 unfold vM
 split at h
 . rename_i i
   split at h
   . rename_i e
     (try simp only [e])
     split at h
     . exact fun _=>h
     . exact h
     . split at h
       . rename_i e2;(try simp only [e2]);exact fun _=>h
       . rename_i e2;(try simp only [e2]);exact fun _=>h
       . exact h.elim
     . exact h.elim
   . rename_i e
     (try simp only [e])
     split at h
     . exact h
     . exact h.elim
   . exact h.elim
 . exact h.elim
theorem dZ {fl : List (Nat × Nat)} {e : Operand -> AV} : ∀ (parts : List (Nat × Operand)) (cells : List AV) (K : List AV -> Prop),kC τ fl e parts cells K ->
 ∃ out,K out /\ kC τ fl e parts cells (· = out)
 | [],cells,K,h=>⟨cells,h,rfl⟩
 | (f,x) :: rest,cells,K,h=>by
  simp only [kC] at h ⊢
  split at h
  . rename_i e1
    (try simp only [e1])
    split at h
    . rename_i i e2
      (try simp only [e2])
      cases hag : i.agg with
      | true =>
       simp only [hag] at h ⊢
       split at h
       . rename_i e3
         (try simp only [e3])
         split at h
         . rename_i e4 e5
           (try simp only [e4,e5])
           exact dZ rest _ K h
         . exact h.elim
       . exact h.elim
      | false =>
       simp only [hag] at h ⊢
       split at h
       . rename_i e4 e5 e6
         (try simp only [e4,e5,e6])
         exact dZ rest _ K h
       . exact h.elim
    . exact h.elim
  . exact h.elim
theorem cZ {fl : List (Nat × Nat)} {e : Operand -> AV} {K K' : List AV -> Prop} (hK : ∀ l,K l -> K' l) : ∀ (parts : List (Nat × Operand)) (cells : List AV),kC τ fl e parts cells K -> kC τ fl e parts cells K'
 | [],cells,h=>hK _ h
 | (f,x) :: rest,cells,h=>by
  simp only [kC] at h ⊢
  split at h
  . rename_i e1
    (try simp only [e1])
    split at h
    . rename_i i e2
      (try simp only [e2])
      cases hag : i.agg with
      | true =>
       simp only [hag] at h ⊢
       split at h
       . rename_i e3
         (try simp only [e3])
         split at h
         . rename_i e4 e5
           (try simp only [e4,e5])
           exact cZ hK rest _ h
         . exact h.elim
       . exact h.elim
      | false =>
       simp only [hag] at h ⊢
       split at h
       . rename_i e4 e5 e6
         (try simp only [e4,e5,e6])
         exact cZ hK rest _ h
       . exact h.elim
    . exact h.elim
  . exact h.elim
theorem qoj {i : Option TyI} {x lo hi : Option AV} {K : AV -> Prop} (h : uI τ i x lo hi K) : ∃ av,K av /\ uI τ i x lo hi (· = av) := by
 unfold uI at h ⊢
 split at h
 . rename_i i
   split at h
   . split at h
     . rename_i e
       (try simp only)
       split at h <;> first|exact ⟨_,h,rfl⟩|exact ⟨_,h.2,h.1,rfl⟩|exact h.elim
     . exact h.elim
   . split at h
     . rename_i e
       (try simp only)
       split at h
       . rename_i e2
         (try simp only [e2])
         split at h
         . rename_i e3
           (try simp only [e3])
           split at h <;> first|exact ⟨_,h,rfl⟩|exact ⟨_,h.2,h.1,rfl⟩|exact h.elim
         . exact h.elim
       . exact h.elim
     . exact h.elim
   . exact h.elim
 . exact h.elim
theorem qoo {i : Option TyI} {blk : Nat -> Option Blk} {x ix : AV} {ok : Bool} {K : AV -> Prop} (h : fK i blk x ix ok K) : ∃ av,K av /\ fK i blk x ix ok (· = av) := by
 unfold fK at h ⊢
 have one : ∀ {l s},xI ok l s K -> ∃ av,K av /\ xI ok l s (· = av) := fun {l s} h=>by
  unfold xI at h ⊢
  cases ok <;> exact ⟨_,h,rfl⟩
 split at h
 . rename_i e1;(try simp only [e1])
   split at h
   . rename_i e2;(try simp only [e2])
     split at h
     . split at h
       . split at h
         . rename_i e3;(try simp only [e3]);exact one h
         . exact h.elim
       . exact one h
       . exact h.elim
     . exact h.elim
   . exact h.elim
 . exact h.elim
theorem qkj {g : Nat} {vs : List AV} {K : AV -> Prop} (h : jJ P blk g vs K) : ∃ av,K av /\ jJ P blk g vs (· = av) := by
 unfold jJ at h ⊢
 simp only [forceLM_eq,uO] at h ⊢
 generalize nextIds blk (nextIds blk (addIds (AV.idsL vs) [])) = L at h ⊢
 cases hnd : vA L with
 | false=>simp [hnd] at h
 | true =>
 simp only [hnd] at h ⊢
 cases hbs : xB blk L L with
 | none=>simp [hbs] at h
 | some bs =>
 simp only [hbs] at h ⊢
 cases hnb : dL bs with
 | false=>simp [hnb] at h
 | true =>
 simp only [hnb,wO] at h ⊢
 obtain ⟨X,h1,h2,h3⟩ := h
 exact ⟨X,h3,X,h1,h2,rfl⟩
theorem uU {e : Operand -> AV} {op : Op} {K : AV -> Prop} (h : pvalD P τ e blk op K) : ∃ av,K av /\ pvalD P τ e blk op (· = av) := by
 cases op <;> simp only [pvalD,pval] at h ⊢ <;> try exact h.elim
 case move x=>exact ⟨_,h,rfl⟩
 case assign x=>exact ⟨_,h,rfl⟩
 case pick c x y =>
  split at h
  . rename_i e1;(try simp only [e1]);exact ⟨_,h,rfl⟩
  . rename_i e1;(try simp only [e1]);exact ⟨_,h,rfl⟩
  . exact h.elim
 case load T p =>
  split at h
  . rename_i e1;(try simp only [e1]);exact aload_ex h
  . exact h.elim
 case nilCheck x =>
  split at h <;> rename_i e1 <;> first|exact h.elim|((try simp only [e1]);exact ⟨_,h,rfl⟩)
 case binOp=>exact qo3 h
 case unOp=>exact aun_ex h
 case convert=>exact qo1 h
 case fieldAddr T x f =>
  split at h
  . rename_i e1;(try simp only [e1])
    split at h
    . rename_i e2;(try simp only [e2])
      split at h
      . rename_i e3;(try simp only [e3])
        split at h <;> rename_i e4 <;> first|exact h.elim|((try simp only [e4]);exact ⟨_,h,rfl⟩)
      . exact h.elim
    . exact h.elim
  . exact h.elim
 case indexAddr T x ix =>
  split at h
  . rename_i e1;(try simp only [e1])
    split at h
    . rename_i e2;(try simp only [e2])
      split at h
      . rename_i e3;(try simp only [e3])
        split at h
        . rename_i e4;(try simp only [e4])
          split at h
          . rename_i e5;(try simp only [e5])
            split at h
            . rename_i e6;(try simp only [e6]);exact ⟨_,h.2,h.1,rfl⟩
            . exact h.elim
          . rename_i e5;(try simp only [e5])
            split at h
            . rename_i e7;(try simp only [e7])
              split at h
              . rename_i e6;(try simp only [e6]);exact ⟨_,h.2,h.1,rfl⟩
              . exact h.elim
            . rename_i e7;(try simp only [e7])
              split at h
              . rename_i e6;(try simp only [e6]);exact ⟨_,h.2,h.1,rfl⟩
              . exact h.elim
            . exact h.elim
          . exact h.elim
        . exact h.elim
      . exact h.elim
    . exact h.elim
  . exact h.elim
 case index T x ix =>
  split at h
  . rename_i e1;(try simp only [e1])
    split at h
    . rename_i e2;(try simp only [e2])
      split at h
      . rename_i e3;(try simp only [e3])
        split at h
        . rename_i e4;(try simp only [e4]);exact ⟨_,h.2,h.1,rfl⟩
        . exact h.elim
      . exact h.elim
    . exact h.elim
  . exact h.elim
 case lookup T x ix ok=>exact qoo h
 case extract t ix =>
  split at h
  . rename_i e1;(try simp only [e1])
    split at h
    . rename_i e2;(try simp only [e2]);exact ⟨_,h,rfl⟩
    . exact h.elim
  . exact h.elim
 case build T parts =>
  split at h
  . rename_i e1;(try simp only [e1])
    split at h
    . rename_i e2;(try simp only [e2])
      obtain ⟨out,h1,h2⟩ := dZ _ _ _ h
      exact ⟨_,h1,cZ (fun l hl=>by subst hl;rfl) _ _ h2⟩
    . exact h.elim
  . exact h.elim
 case slice T x lo hi mx =>
  cases mx with
  | some m=>exact h.elim
  | none=>exact qoj h
 case call c =>
  obtain ⟨callee,args,ts⟩ := c
  cases callee with
  | value f =>
   simp only at h ⊢
   split at h
   . rename_i e1;(try simp only [e1])
     unfold fF at h ⊢
     split at h
     . rename_i e2;(try simp only)
       obtain ⟨X,h1,h2,h3⟩ := h
       exact ⟨X,h3,X,h1,h2,rfl⟩
     . rename_i e2;(try simp only)
       exact qkj h
   . exact h.elim
  | invoke=>exact h.elim
  | builtin b =>
   cases b <;> simp only at h ⊢ <;> try exact h.elim
   case len =>
    split at h
    . exact qos h
    . exact h.elim
   case min =>
    have h' : pval P τ e blk (.call { callee := .builtin .min,args := args,argTypes := ts }) K := h
    show ∃ av,K av /\ pval P τ e blk (.call { callee := .builtin .min,args := args,argTypes := ts }) (· = av)
    simp only [pval] at h' ⊢
    split at h'
    . split at h'
      . exact ⟨_,h',rfl⟩
      . exact h'.elim
    . exact h'.elim
   case max =>
    have h' : pval P τ e blk (.call { callee := .builtin .max,args := args,argTypes := ts }) K := h
    show ∃ av,K av /\ pval P τ e blk (.call { callee := .builtin .max,args := args,argTypes := ts }) (· = av)
    simp only [pval] at h' ⊢
    split at h'
    . split at h'
      . exact ⟨_,h',rfl⟩
      . exact h'.elim
    . exact h'.elim
theorem qb0 {e : Operand -> AV} {op : Op} {K : AV -> Prop} (h : pvalD P τ e blk op K) : pval P τ e blk op K := by
 cases op <;> try exact h
 case call c =>
  obtain ⟨callee,args,ts⟩ := c
  cases callee with
  | builtin b =>
   cases b <;> try exact h
   simp only [pvalD,pval] at h ⊢
   split at h
   . exact qor h
   . exact h.elim
  | _=>exact h
/-! ### it looks at its operands alone -/
theorem qhr {fl : List (Nat × Nat)} {e e' : Operand -> AV} : ∀ (parts : List (Nat × Operand)) (cells : List AV) (K : List AV -> Prop),(∀ x ∈ parts.map (·.2),e x = e' x) -> kC τ fl e parts cells K = kC τ fl e' parts cells K
 | [],_,_,_=>rfl
 | (f,x) :: rest,cells,K,he=>by
  have h1 : e x = e' x := he x (by simp)
  simp only [kC,h1]
  have ih := fun cells=>qhr (fl := fl) (e := e) (e' := e') rest cells K (fun y hy=>he y (by simp only [List.map_cons,List.mem_cons];exact .inr hy))
  simp only [ih]
theorem vU {e e' : Operand -> AV} {op : Op} {K : AV -> Prop} (he : ∀ x ∈ op.operands,e x = e' x) : pvalD P τ e blk op K = pvalD P τ e' blk op K := by
 cases op <;> simp only [Op.operands] at he <;> simp only [pvalD,pval]
 case build T ps =>
  split
  . split
    . rename_i l _
      exact qhr _ _ _ (fun x hx=>he x (by simpa using hx))
    . rfl
  . rfl
 case slice T x lo hi mx =>
  cases mx with
  | some m=>rfl
  | none =>
   have hx : e x = e' x := he x (by simp)
   have hlo : lo.map e = lo.map e' := by cases lo with|none=>rfl|some y=>simp [he y (by simp)]
   have hhi : hi.map e = hi.map e' := by cases hi with|none=>rfl|some y=>simp [he y (by simp)]
   simp only [hx,hlo,hhi]
 case call c =>
  obtain ⟨callee,args,ts⟩ := c
  cases callee with
  | value f =>
   have hf : e f = e' f := he f (by simp [Call.operands])
   have ha : args.toList.map e = args.toList.map e' := List.map_congr_left (fun y hy=>he y (by simp [Call.operands];exact .inr (by simpa using hy)))
   simp only [hf,ha]
  | invoke r m=>rfl
  | builtin b =>
   cases b <;> try rfl
   case min =>
    show pval P τ e blk (.call { callee := .builtin .min,args := args,argTypes := ts }) K = pval P τ e' blk (.call { callee := .builtin .min,args := args,argTypes := ts }) K
    simp only [pval]
    split
    . rename_i x y e1
      have hx : e x = e' x := he x (by
       have : x ∈ args.toList := by rw [e1];simp
       simpa [Call.operands] using this)
      have hy : e y = e' y := he y (by
       have : y ∈ args.toList := by rw [e1];simp
       simpa [Call.operands] using this)
      rw [hx,hy]
    . rfl
   case max =>
    show pval P τ e blk (.call { callee := .builtin .max,args := args,argTypes := ts }) K = pval P τ e' blk (.call { callee := .builtin .max,args := args,argTypes := ts }) K
    simp only [pval]
    split
    . rename_i x y e1
      have hx : e x = e' x := he x (by
       have : x ∈ args.toList := by rw [e1];simp
       simpa [Call.operands] using this)
      have hy : e y = e' y := he y (by
       have : y ∈ args.toList := by rw [e1];simp
       simpa [Call.operands] using this)
      rw [hx,hy]
    . rfl
   simp only
   split
   . rename_i x T e1 e2
     have : e x = e' x := he x (by
      have : x ∈ args.toList := by rw [e1];simp
      simpa [Call.operands] using this)
     rw [this]
   . rfl
 all_goals (first|rfl|(simp_all;done)|(simp only [List.mem_toArray,List.mem_cons,List.not_mem_nil,or_false] at he;simp_all))
end
section
variable {P : Program} {τ : Tys} {Im Im' : Nat -> Nat -> Prop} {ρ ρ' ρ2 : Rho} {h h' : Array Obj} {w w' : World}
variable {w0 : World} {G : GP} {Im0 : Nat -> Nat -> Prop} {S : AState} {a : Act} {n : Nat} {tm : Nat -> AV} {blk : Nat -> Option Blk} {ops : Array Oper}
variable [hT : Nonempty (TabH w0.heap Im0)]
def OpOk (P : Program) (τ : Tys) (ops : Array Oper) (n : Nat) (blk : Nat -> Option Blk) (o : Oper) (tm : Nat -> AV) (v : AV) : Prop :=
 match o.guard with
 | none=>pvalD P τ (ev ⟨n,tm,blk⟩) blk o.op (· = v)
 | some (g,want)=>∃ t,(ops[g]?).bind (·.dst) = some t /\ ((∃ c,tm t = .dat (.bool c) /\ (c = want -> pvalD P τ (ev ⟨n,tm,blk⟩) blk o.op (· = v)) /\ (c ≠ want -> v = .tup [])) \/ (tm t = .tup [] /\ v = .tup []))
def Chain (P : Program) (τ : Tys) (ops : Array Oper) (n : Nat) (blk : Nat -> Option Blk) : List Oper -> (Nat -> AV) -> List AV -> (Nat -> AV) -> Prop
 | [],tm,[],tm'=>tm' = tm
 | o :: l,tm,v :: vs,tm'=>∃ d,o.dst = some d /\ d < n /\ OpOk P τ ops n blk o tm v /\ Chain P τ ops n blk l (z6 tm d v) vs tm'
 | _,_,_,_=>False
theorem tT {t : Nat} {v : AV} (h : tm t = v) : z6 tm t v = tm := by
 funext s
 by_cases e : s = t
 . subst e;rw [updT_same,h]
 . rw [updT_ne _ e]
theorem jY : ∀ (l : List Oper) (tm : Nat -> AV) (K : AState -> Prop),(∀ o ∈ l,o.dst.isSome = true) -> iB P τ ops l ⟨n,tm,blk⟩ K ->
 ∃ vs tm',Chain P τ ops n blk l tm vs tm' /\ K ⟨n,tm',blk⟩
 | [],tm,K,_,h=>⟨[],tm,rfl,h⟩
 | o :: l,tm,K,hd,h=>by
  have ih := fun tm (h : iB P τ ops l ⟨n,tm,blk⟩ K)=>jY l tm K (fun o ho=>hd o (by simp [ho])) h
  obtain ⟨d,hdst⟩ := Option.isSome_iff_exists.1 (hd o (by simp))
  have put : ∀ {tm v},(AState.put ⟨n,tm,blk⟩ o.dst v fun S=>iB P τ ops l S K) -> d < n /\ iB P τ ops l ⟨n,z6 tm d v,blk⟩ K := fun {tm v} hp=>by
   rw [hdst] at hp
   simp only [AState.put] at hp
   cases hb : Nat.blt d n with
   | false=>simp [hb] at hp
   | true=>simp only [hb] at hp;exact ⟨blt_lt hb,hp⟩
  simp only [iB] at h
  cases hg : o.guard with
  | none =>
   simp only [hg] at h
   obtain ⟨v,hv1,hv2⟩ := uU h
   rw [gE] at hv1
   obtain ⟨hn,hp⟩ := put hv1
   obtain ⟨vs,tm',h1,h2⟩ := ih _ hp
   exact ⟨v :: vs,tm',⟨d,hdst,hn,by unfold OpOk;simp only [hg];exact hv2,h1⟩,h2⟩
  | some gw =>
   obtain ⟨g,want⟩ := gw
   simp only [hg] at h
   cases ht : (ops[g]?).bind (·.dst) with
   | none=>simp [ht] at h
   | some t =>
    simp only [ht] at h
    split at h
    . rename_i c hc
      have run : c = want -> (pvalD P τ (ev ⟨n,z6 tm t (.dat (.bool want)),blk⟩) blk o.op fun v=>force v fun v=>AState.put ⟨n,z6 tm t (.dat (.bool want)),blk⟩ o.dst v fun S=>iB P τ ops l S K) ->
       ∃ vs tm',Chain P τ ops n blk (o :: l) tm vs tm' /\ K ⟨n,tm',blk⟩ := fun e hrun=>by
       rw [tT (by rw [hc,e])] at hrun
       obtain ⟨v,hv1,hv2⟩ := uU hrun
       rw [gE] at hv1
       obtain ⟨hn,hp⟩ := put hv1
       obtain ⟨vs,tm',h1,h2⟩ := ih _ hp
       exact ⟨v :: vs,tm',⟨d,hdst,hn,by unfold OpOk;simp only [hg];exact ⟨t,ht,.inl ⟨c,hc,fun _=>hv2,fun e'=>absurd e e'⟩⟩,h1⟩,h2⟩
      have skip : ∀ b,c = b -> b ≠ want -> (AState.put ⟨n,z6 tm t (.dat (.bool b)),blk⟩ o.dst (.tup []) fun S=>iB P τ ops l S K) ->
       ∃ vs tm',Chain P τ ops n blk (o :: l) tm vs tm' /\ K ⟨n,tm',blk⟩ := fun b e hne hs=>by
       rw [tT (by rw [hc,e])] at hs
       obtain ⟨hn,hp⟩ := put hs
       obtain ⟨vs,tm',h1,h2⟩ := ih _ hp
       exact ⟨.tup [] :: vs,tm',⟨d,hdst,hn,by unfold OpOk;rw [hg];exact ⟨t,ht,.inl ⟨c,hc,fun e'=>absurd (e ▸ e') hne,fun _=>rfl⟩⟩,h1⟩,h2⟩
      cases want with
      | true=>cases c with
       | true=>exact run rfl (h.1 rfl)
       | false=>exact skip false rfl (by decide) (h.2 rfl)
      | false=>cases c with
       | true=>exact skip true rfl (by decide) (h.2 rfl)
       | false=>exact run rfl (h.1 rfl)
    . rename_i hc
      obtain ⟨hn,hp⟩ := put h
      obtain ⟨vs,tm',h1,h2⟩ := ih _ hp
      exact ⟨.tup [] :: vs,tm',⟨d,hdst,hn,by unfold OpOk;rw [hg];exact ⟨t,ht,.inr ⟨hc,rfl⟩⟩,h1⟩,h2⟩
    . exact h.elim
def kK (pre : List Oper) (vs : List AV) (tm : Nat -> AV) (E : Nat -> Bool) (tm' : Nat -> AV) : Prop :=
 (∀ (j : Nat) (o : Oper) (v : AV) (d : Nat),pre[j]? = some o -> vs[j]? = some v -> o.dst = some d -> E j = true -> tm' d = v) /\
 ∀ t,(∀ (j : Nat) (o : Oper),pre[j]? = some o -> E j = true -> o.dst ≠ some t) -> tm' t = tm t
def hZ (pre : List Oper) : Prop := ∀ (i j : Nat) (o o' : Oper) (d : Nat),pre[i]? = some o -> pre[j]? = some o' -> o.dst = some d -> o'.dst = some d -> i = j
theorem Chain.length : ∀ {l : List Oper} {tm : Nat -> AV} {vs : List AV} {tm' : Nat -> AV},Chain P τ ops n blk l tm vs tm' -> vs.length = l.length
 | [],_,[],_,_=>rfl
 | o :: l,tm,v :: vs,tm',h=>by obtain ⟨d,_,_,_,h⟩ := h;simp [Chain.length h]
 | [],_,_ :: _,_,h=>h.elim
 | _ :: _,_,[],_,h=>h.elim
theorem Chain.at : ∀ {l : List Oper} {tm : Nat -> AV} {vs : List AV} {tm' : Nat -> AV},Chain P τ ops n blk l tm vs tm' -> hZ l ->
 (∀ (i : Nat) (o : Oper) (v : AV),l[i]? = some o -> vs[i]? = some v -> ∃ d tmi,o.dst = some d /\ d < n /\ OpOk P τ ops n blk o tmi v /\ kK l vs tm (fun j=>decide (j < i)) tmi) /\
 kK l vs tm (fun _=>true) tm'
 | [],tm,[],tm',h,_=>by
  subst h
  exact ⟨by simp,by simp [kK]⟩
 | o :: l,tm,v :: vs,tm',h,hd=>by
  obtain ⟨d,hdst,hn,hok,hch⟩ := h
  have hdl : hZ l := fun i j x y t hi hj hx hy=>by
   have := hd (i + 1) (j + 1) x y t (by simpa using hi) (by simpa using hj) hx hy
   omega
  have hnd : ∀ (j : Nat) (x : Oper),l[j]? = some x -> x.dst ≠ some d := fun j x hj e=>by
   have := hd 0 (j + 1) o x d rfl (by simpa using hj) hdst e
   omega
  obtain ⟨ih1,ih2⟩ := hch.at hdl
  have lift : ∀ {E : Nat -> Bool} {E' : Nat -> Bool} {tmi},(∀ j,E' (j + 1) = E j) -> E' 0 = true -> kK l vs (z6 tm d v) E tmi -> kK (o :: l) (v :: vs) tm E' tmi := fun {E E' tmi} hE h0 hat=>by
   refine ⟨fun j x y t hj hy hx hEj=>?_,fun t ht=>?_⟩
   . cases j with
     | zero =>
      simp at hj hy;subst hj;subst hy
      rw [hdst] at hx;cases hx
      rw [hat.2 d (fun j x hj _=>hnd j x hj),updT_same]
     | succ j =>
      simp at hj hy
      exact hat.1 j x y t hj hy hx (by rw [<- hE];exact hEj)
   . rw [hat.2 t (fun j x hj hEj=>ht (j + 1) x (by simpa using hj) (by rw [hE];exact hEj)),updT_ne _ (fun e=>ht 0 o rfl h0 (by rw [hdst,e]))]
  refine ⟨fun i x y hi hy=>?_,lift (E := fun _=>true) (E' := fun _=>true) (fun _=>rfl) rfl ih2⟩
  cases i with
  | zero =>
   simp at hi hy;subst hi;subst hy
   exact ⟨d,tm,hdst,hn,hok,⟨fun j _ _ _ _ _ _ hE=>by simp at hE,fun t _=>rfl⟩⟩
  | succ i =>
   simp at hi hy
   obtain ⟨d',tmi,h1,h2,h3,h4⟩ := ih1 i x y hi hy
   exact ⟨d',tmi,h1,h2,h3,lift (fun j=>by simp) (by simp) h4⟩
 | [],_,_ :: _,_,h,_=>h.elim
 | _ :: _,_,[],_,h,_=>h.elim
/-! ### what the check says -/
def Edge (o : Oper) (j : Nat) : Prop := ∃ e ∈ o.after,Region.binds .any e = true /\ e.on = j
theorem qfp {o : Oper} {j : Nat} (h : oS o j = true) : Edge o j := by
 unfold oS at h
 simp only [List.any_eq_true,Bool.and_eq_true] at h
 obtain ⟨e,he,h1,h2⟩ := h
 exact ⟨e,by simpa using he,h1,Nat.eq_of_beq_eq_true h2⟩
theorem qS : ∀ {l : List Oper} {k i : Nat} {o : Oper},tG l k = true -> l[i]? = some o -> ∀ e ∈ o.after,Region.binds .any e = true -> e.on < k + i
 | [],_,_,_,_,h,_,_,_=>by simp at h
 | x :: l,k,i,o,hb,h,e,he,hbind=>by
  simp only [tG,Bool.and_eq_true] at hb
  cases i with
  | zero =>
   simp at h;subst h
   have := hb.1
   simp only [backB,List.all_eq_true] at this
   have := this e (by simpa using he)
   simp only [hbind,Bool.not_true,Bool.false_or] at this
   exact blt_lt this
  | succ i =>
   simp at h
   have := qS hb.2 h e he hbind
   omega
theorem qa0 {pre : List Oper} {o : Oper} {i t : Nat} : ∀ {l : List Oper} {k j : Nat} {o' : Oper},iQ pre o i t l k = true -> l[j]? = some o' -> o'.dst = some t -> (k + j < i /\ Edge o (k + j)) \/ (i < k + j /\ Edge o' i)
 | [],_,_,_,_,h,_=>by simp at h
 | x :: l,k,j,o',hs,h,hd=>by
  simp only [iQ,Bool.and_eq_true] at hs
  cases j with
  | zero =>
   simp at h;subst h
   have := hs.1
   have hdi : dstIs x t = true := by simp [dstIs,hd]
   simp only [hdi,Bool.not_true,Bool.false_or,Bool.or_eq_true,Bool.and_eq_true] at this
   rcases this with ⟨h1,h2⟩|⟨h1,h2⟩
   . exact .inl ⟨blt_lt h1,qfp h2⟩
   . exact .inr ⟨blt_lt h1,qfp h2⟩
  | succ j =>
   simp at h
   have := qa0 hs.2 h hd
   rwa [show k + 1 + j = k + (j + 1) from by omega] at this
theorem qns {o : Oper} {t : Nat} (h : dstIs o t = false) : o.dst ≠ some t := by
 intro e;simp [dstIs,e] at h
theorem nN {pre : List Oper} : ∀ {l : List Oper} {k i : Nat} {o : Oper},sQ ops pre l k = true -> l[i]? = some o ->
 (∃ d,o.dst = some d /\ ∀ (j : Nat) (o' : Oper),i < j -> l[j]? = some o' -> o'.dst ≠ some d) /\
 ∀ t ∈ o.looksAt ops,∀ (j : Nat) (o' : Oper),pre[j]? = some o' -> o'.dst = some t -> (j < k + i /\ Edge o j) \/ (k + i < j /\ Edge o' (k + i))
 | [],_,_,_,_,h=>by simp at h
 | x :: l,k,i,o,hp,h=>by
  simp only [sQ,Bool.and_eq_true] at hp
  obtain ⟨⟨⟨h1,h2⟩,h3⟩,h4⟩ := hp
  cases i with
  | zero =>
   simp at h;subst h
   obtain ⟨d,hd⟩ := Option.isSome_iff_exists.1 h1
   refine ⟨⟨d,hd,fun j o' hj ho'=>?_⟩,fun t ht j o' hj hd'=>?_⟩
   . cases j with
     | zero=>omega
     | succ j =>
      simp at ho'
      rw [List.all_eq_true] at h2
      have := h2 o' (List.mem_of_getElem? ho')
      rw [hd] at this
      simp at this
      exact qns this
   . rw [List.all_eq_true] at h3
     have := qa0 (h3 t ht) hj hd'
     simpa using this
  | succ i =>
   simp at h
   obtain ⟨⟨d,hd,h5⟩,h6⟩ := nN h4 h
   refine ⟨⟨d,hd,fun j o' hj ho'=>?_⟩,fun t ht j o' hj hd'=>?_⟩
   . cases j with
     | zero=>omega
     | succ j=>simp at ho';exact h5 j o' omG ho'
   . have := h6 t ht j o' hj hd'
     rwa [show k + 1 + i = k + (i + 1) from by omega] at this
theorem qbx {L : List Oper} {listed : Nat -> Prop} (hcl : ∀ i o,listed i -> L[i]? = some o -> ∀ e ∈ o.after,Region.binds .any e = true -> listed e.on) :
 ∀ (f : Nat) (o : Oper) (j : Nat),(∀ e ∈ o.after,Region.binds .any e = true -> listed e.on) -> vH L f o j = true -> listed j
 | 0,_,_,_,h=>by simp [vH] at h
 | f + 1,o,j,ho,h=>by
  simp only [vH,List.any_eq_true,Bool.and_eq_true,Bool.or_eq_true] at h
  obtain ⟨e,he,hb,h⟩ := h
  have he' : e ∈ o.after := by simpa using he
  have hl := ho e he' hb
  rcases h with h|h
  . rw [<- Nat.eq_of_beq_eq_true h];exact hl
  . cases ho' : L[e.on]? with
    | none=>simp [ho'] at h
    | some o' =>
     simp only [ho'] at h
     exact qbx hcl f o' j (hcl e.on o' hl ho') h
theorem qak {L : List Oper} : ∀ {l : List Oper} {k i : Nat} {o : Oper},aQ L l k = true -> l[i]? = some o -> ∀ j,j < k + i -> ∃ f,vH L f o j = true
 | [],_,_,_,_,h,_,_=>by simp at h
 | x :: l,k,i,o,ht,h,j,hj=>by
  simp only [aQ,Bool.and_eq_true] at ht
  cases i with
  | zero =>
   simp at h;subst h
   have := ht.1
   rw [List.all_eq_true] at this
   exact ⟨_,this j (List.mem_range.2 omG)⟩
  | succ i =>
   simp at h
   exact qak ht.2 h j omG
theorem gW {o : Oper} {x : Operand} {t : Nat} (hx : x ∈ o.op.operands) (e : x = .tmp t) : t ∈ o.looksAt ops := by
 subst e
 exact List.mem_append_left _ (List.mem_filterMap.2 ⟨.tmp t,by simpa using hx,rfl⟩)
def bF (N : Nat) (listed : Array Bool) : Nat := (List.range N).countP fun i => !listed.getD i true
theorem qf4 {p q : Nat -> Bool} {i : Nat} (hp : p i = true) (hq : q i = false) (h : ∀ j,j ≠ i -> q j = p j) : ∀ (l : List Nat),l.Nodup -> (i ∉ l -> l.countP q = l.countP p) /\ (i ∈ l -> l.countP q + 1 = l.countP p)
 | [],_=>by simp
 | x :: l,hn=>by
  have hn' := List.nodup_cons.1 hn
  obtain ⟨ih1,ih2⟩ := qf4 hp hq h l hn'.2
  by_cases e : x = i
  . subst e
    refine ⟨fun hm=>absurd (List.mem_cons_self) hm,fun _=>?_⟩
    rw [List.countP_cons,List.countP_cons,hp,hq,ih1 hn'.1]
    simp
  . refine ⟨fun hm=>?_,fun hm=>?_⟩
    . rw [List.countP_cons,List.countP_cons,h x e,ih1 (fun h=>hm (List.mem_cons_of_mem _ h))]
    . rcases List.mem_cons.1 hm with h1|h1
      . exact absurd h1.symm e
      . rw [List.countP_cons,List.countP_cons,h x e]
        have := ih2 h1
        omega
theorem qah {N : Nat} {listed : Array Bool} {i : Nat} (hi : i < N) (hs : listed.size = N) (hl : listed.getD i true = false) : bF N (listed.setIfInBounds i true) + 1 = bF N listed := by
 unfold bF
 refine (qf4 (i := i) (by rw [hl];rfl) ?_ (fun j hj=>?_) _ List.nodup_range).2 (List.mem_range.2 hi)
 . have : (listed.setIfInBounds i true).getD i true = true := by simp [hs,hi]
   rw [this];rfl
 . rw [getD_set_ne true (fun e=>hj e.symm)]
theorem least {p : Nat -> Prop} : ∀ (i : Nat),p i -> ∃ m,m <= i /\ p m /\ ∀ j,j < m -> ¬ p j := by
 intro i
 induction i using Nat.strongRecOn with
 | _ i ih =>
  intro hi
  by_cases h : ∃ j,j < i /\ p j
  . obtain ⟨j,hj,hp⟩ := h
    obtain ⟨m,h1,h2,h3⟩ := ih j hj hp
    exact ⟨m,by omega,h2,h3⟩
  . exact ⟨i,Nat.le_refl _,hi,fun j hj hp=>h ⟨j,hj,hp⟩⟩
theorem qeu {listed : Array Bool} {i : Nat} (h : listed.getD i false = true) : listed.getD i true = true := by
 by_cases hi : i < listed.size <;> simp_all
theorem qev {listed : Array Bool} {i : Nat} (hi : i < listed.size) (h : listed.getD i true = true) : listed.getD i false = true := by
 simp_all
theorem qcf {l : List Oper} (h : kF l = true) (x : Oper) (hx : x ∈ l) : cR x.op = true := by
 induction l with
 | nil=>cases hx
 | cons o l ih =>
  unfold kF at h
  cases h1 : cR o.op with
  | false=>rw [h1] at h;cases h
  | true =>
   rw [h1] at h
   rcases List.mem_cons.1 hx with e|e
   . subst e;exact h1
   . exact ih h e
theorem qkt {ops : Array Oper} (h : kF ops.toList = true) : Region.noSelect ops = true := by
 unfold Region.noSelect
 rw [Array.all_eq_true_iff_forall_mem]
 intro x hx
 have := qcf h x (by simpa using hx)
 unfold cR at this
 exact this
theorem qnt (hτ : d6 P τ) (hm : P.follows .mixedOrders = true) {id : Nat} {Q : Exit -> Act -> World -> Prop} {K : AState -> Prop} (hd : cP ops (preLen ops.toList) = true)
 (h : iB P τ ops (ops.toList.take (preLen ops.toList)) S fun S=>w8 P τ ops (ops.toList.drop (preLen ops.toList)) S K) (hR : o5 w0 G Im0 S a w)
 (hn : ∀ S' a' w',K S' -> o5 w0 G Im0 S' a' w' -> Q .normal a' w') : (Code.region id ops true).wp P Q a w := by
 generalize preLen ops.toList = p0 at hd h
 simp only [cP,Bool.and_eq_true] at hd
 obtain ⟨⟨⟨hback,hpre⟩,htail⟩,hsel'⟩ := hd
 have hsel := qkt hsel'
 obtain ⟨n,tm,blk⟩ := S
 have hsome : ∀ o ∈ ops.toList.take p0,o.dst.isSome = true := fun o ho=>by
  obtain ⟨i,hi⟩ := List.getElem?_of_mem ho
  obtain ⟨⟨d,h1,_⟩,_⟩ := nN hpre hi
  simp [h1]
 obtain ⟨vs,tmE,hch,htl⟩ := jY _ tm _ hsome h
 obtain ⟨pre,hpreE⟩ : ∃ pre,pre = ops.toList.take p0 := ⟨_,rfl⟩
 rw [<- hpreE] at hpre hch hsome
 have hdist : hZ pre := fun i j o o' d hi hj ho ho'=>by
  rcases Nat.lt_trichotomy i j with hlt|he|hgt
  . obtain ⟨⟨d',h1,h2⟩,_⟩ := nN hpre hi
    rw [ho] at h1;cases h1
    exact absurd ho' (h2 j o' hlt hj)
  . exact he
  . obtain ⟨⟨d',h1,h2⟩,_⟩ := nN hpre hj
    rw [ho'] at h1;cases h1
    exact absurd ho (h2 i o hgt hi)
 obtain ⟨hat,hend⟩ := hch.at hdist
 have hvl := hch.length
 have hps : pre.length <= ops.size := by rw [hpreE];simp;omega
 have hpp : pre.length = min p0 ops.size := by rw [hpreE];simp
 have hpget : ∀ i,i < pre.length -> pre[i]? = ops[i]? := fun i hi=>by
  rw [hpreE,List.getElem?_take_of_lt omG];simp
 have hbk : ∀ (i : Nat) (o : Oper),ops[i]? = some o -> ∀ e ∈ o.after,Region.binds .any e = true -> e.on < i := fun i o ho e he hb=>by
  have := qS hback (i := i) (o := o) (by simpa using ho) e he hb
  omega
 have htk : ∀ (i : Nat) (o : Oper),pre.length <= i -> ops[i]? = some o -> ∀ j,j < i -> ∃ f,vH ops.toList f o j = true := fun i o hi ho j hj=>by
  have hlt : i < ops.size := (Array.getElem?_eq_some_iff.1 ho).1
  have hp0 : pre.length = p0 := by omega
  have := qak htail (i := i - p0) (o := o) (by rw [List.getElem?_drop,show p0 + (i - p0) = i from by omega];simpa using ho) j omG
  exact this
 let Closed (listed : Array Bool) : Prop := ∀ (i : Nat) (o : Oper),i < ops.size -> listed.getD i true = true -> ops[i]? = some o -> ∀ e ∈ o.after,Region.binds .any e = true -> listed.getD e.on true = true
 have main : ∀ (fuel : Nat) (listed : Array Bool) (a : Act) (w : World),listed.size = ops.size -> bF ops.size listed = fuel -> Closed listed ->
  (((∃ i,i < pre.length /\ listed.getD i true = false) /\ (∀ k,pre.length <= k -> k < ops.size -> listed.getD k true = false) /\
   ∃ tm',kK pre vs tm (fun j=>listed.getD j true) tm' /\ o5 w0 G Im0 ⟨n,tm',blk⟩ a w) \/
   ∃ m,pre.length <= m /\ m <= ops.size /\ (∀ k,k < ops.size -> listed.getD k true = decide (k < m)) /\ ∃ S,w8 P τ ops (ops.toList.drop m) S K /\ o5 w0 G Im0 S a w) ->
  wpAny P .any ops Q fuel listed a w := by
  intro fuel
  induction fuel with
  | zero =>
   intro listed a w hsz hcnt hcl hph
   have hall : ∀ k,k < ops.size -> listed.getD k true = true := fun k hk=>by
    have := List.countP_eq_zero.1 hcnt k (List.mem_range.2 hk)
    simpa using this
   have hnil : Region.ready .any ops listed = [] := by
    cases hr : Region.ready .any ops listed with
    | nil=>rfl
    | cons x xs =>
     have : x ∈ Region.ready .any ops listed := by rw [hr];simp
     obtain ⟨h1,o,ho,_⟩ := mem_ready.1 this
     rw [hall x (Array.getElem?_eq_some_iff.1 ho).1] at h1;cases h1
   refine ⟨hnil, ?_⟩
   rcases hph with ⟨⟨i,hi,hl⟩,_⟩|⟨m,hm1,hm2,hml,S,hS,hRS⟩
   . rw [hall i omG] at hl;cases hl
   . have : m = ops.size := by
      rcases Nat.lt_or_ge m ops.size with hlt|hge
      . have h1 := hml m hlt
        rw [hall m hlt] at h1
        simp at h1
      . omega
     subst this
     rw [List.drop_of_length_le (by simp)] at hS
     exact hn S a w hS hRS
  | succ fuel ih =>
   intro listed a w hsz hcnt hcl hph
   have hex : ∃ i,i < ops.size /\ listed.getD i true = false := by
    by_cases hx : ∃ i,i < ops.size /\ listed.getD i true = false
    . exact hx
    . exfalso
      have : bF ops.size listed = 0 := List.countP_eq_zero.2 (fun k hk=>by
       have hk' := List.mem_range.1 hk
       cases hlk : listed.getD k true with
       | true=>simp
       | false=>exact absurd ⟨k,hk',hlk⟩ hx)
      omega
   have hready : ∀ {i o},ops[i]? = some o -> listed.getD i true = false -> (∀ e ∈ o.after,Region.binds .any e = true -> listed.getD e.on true = true) -> i ∈ Region.ready .any ops listed := fun {i o} ho hl hed =>
    mem_ready.2 ⟨hl,o,ho,fun e he hb=>qev (by have := hbk i o ho e he hb;have := (Array.getElem?_eq_some_iff.1 ho).1;omega) (hed e he hb)⟩
   refine ⟨fun hnil=>?_,fun i hi=>?_⟩
   . exfalso
     obtain ⟨i0,h1,h2⟩ := hex
     obtain ⟨m,hm1,hm2,hm3⟩ := least (p := fun i=>i < ops.size /\ listed.getD i true = false) i0 ⟨h1,h2⟩
     have hmem := hready (Array.getElem?_eq_getElem hm2.1) hm2.2 (fun e he hb=>by
      have hlt := hbk m _ (Array.getElem?_eq_getElem hm2.1) e he hb
      cases hle : listed.getD e.on true with
      | true=>rfl
      | false=>exact absurd ⟨by omega,hle⟩ (hm3 e.on hlt))
     rw [hnil] at hmem;cases hmem
   . obtain ⟨hl,o,ho,hed⟩ := mem_ready.1 hi
     have hilt : i < ops.size := (Array.getElem?_eq_some_iff.1 ho).1
     have hedT : ∀ e ∈ o.after,Region.binds .any e = true -> listed.getD e.on true = true := fun e he hb=>qeu (hed e he hb)
     have hcnt' : bF ops.size (listed.setIfInBounds i true) = fuel := by have := qah hilt hsz hl;omega
     have hget : ∀ j,(listed.setIfInBounds i true).getD j true = if j = i then true else listed.getD j true := fun j=>by
      by_cases e : j = i
      . subst e;simp [hsz,hilt]
      . rw [if_neg e,getD_set_ne true (fun e'=>e e'.symm)]
     have hgetT : ∀ j,listed.getD j true = true -> (listed.setIfInBounds i true).getD j true = true := fun j hj=>by rw [hget];split <;> simp_all
     have hcl' : Closed (listed.setIfInBounds i true) := fun j o' hj hlj ho' e he hb=>by
      refine hgetT _ ?_
      rw [hget] at hlj
      by_cases e' : j = i
      . subst e';rw [ho] at ho';cases ho';exact hedT e he hb
      . rw [if_neg e'] at hlj;exact hcl j o' hj hlj ho' e he hb
     have hreach : ∀ j,(∃ f,vH ops.toList f o j = true) -> listed.getD j true = true := fun j ⟨f,hf⟩ =>
      qbx (L := ops.toList) (listed := fun j=>listed.getD j true = true) (fun j o' hj ho'=>by
       have ho'' : ops[j]? = some o' := by simpa using ho'
       exact hcl j o' (Array.getElem?_eq_some_iff.1 ho'').1 hj ho'') f o j hedT hf
     have hsz' : (listed.setIfInBounds i true).size = ops.size := by simpa using hsz
     unfold wpOp
     simp only [ho]
     rcases hph with ⟨⟨i1,hi1,hli1⟩,htail0,tm',hat',hRel⟩|⟨m,hm1,hm2,hml,S,hS,hRS⟩
     . -- in the first part
       have hip : i < pre.length := by
        rcases Nat.lt_or_ge i pre.length with h1|h1
        . exact h1
        . have := hreach i1 (htk i o h1 ho i1 omG)
          rw [hli1] at this;cases this
       have hpi : pre[i]? = some o := by rw [hpget i hip];exact ho
       obtain ⟨v,hv⟩ : ∃ v,vs[i]? = some v := ⟨vs[i]'omG,List.getElem?_eq_getElem omG⟩
       obtain ⟨d,tmi,hdst,hdn,hok,hati⟩ := hat i o v hpi hv
       obtain ⟨_,hlook⟩ := nN hpre hpi
       have hsame : ∀ t ∈ o.looksAt ops,tm' t = tmi t := fun t ht=>by
        by_cases hw : ∃ (j : Nat) (o' : Oper),pre[j]? = some o' /\ o'.dst = some t
        . obtain ⟨j,o',hj,ho't⟩ := hw
          obtain ⟨u,hu⟩ : ∃ u,vs[j]? = some u := by
           have hjl := (List.getElem?_eq_some_iff.1 hj).1
           exact ⟨vs[j]'omG,List.getElem?_eq_getElem omG⟩
          have hjl := (List.getElem?_eq_some_iff.1 hj).1
          rcases hlook t ht j o' hj ho't with ⟨h1,e,he,hb,hon⟩|⟨h1,e,he,hb,hon⟩
          . have hlj : listed.getD j true = true := by rw [<- hon];exact hedT e he hb
            rw [hat'.1 j o' u t hj hu ho't hlj,hati.1 j o' u t hj hu ho't (by simpa using h1)]
          . have hlj : listed.getD j true = false := by
             cases hlj : listed.getD j true with
             | false=>rfl
             | true =>
              have := hcl j o' omG hlj (by rw [<- hpget j hjl];exact hj) e he hb
              rw [hon,Nat.zero_add,hl] at this;cases this
            rw [hat'.2 t (fun k x hk hEk hx=>?_),hati.2 t (fun k x hk hEk hx=>?_)]
            . have := hdist k j x o' t hk hj hx ho't
              subst this
              simp at hEk;omega
            . have := hdist k j x o' t hk hj hx ho't
              subst this
              simp only [hlj] at hEk;cases hEk
        . rw [hat'.2 t (fun k x hk _ hx=>hw ⟨k,x,hk,hx⟩),hati.2 t (fun k x hk _ hx=>hw ⟨k,x,hk,hx⟩)]
       have hevs : ∀ x ∈ o.op.operands,ev ⟨n,tmi,blk⟩ x = ev ⟨n,tm',blk⟩ x := fun x hx=>by
        cases x with
        | tmp t=>exact (hsame t (gW hx rfl)).symm
        | _=>rfl
       have next : ∀ {a' w'},o5 w0 G Im0 ⟨n,z6 tm' d v,blk⟩ a' w' -> wpAny P .any ops Q fuel (listed.setIfInBounds i true) a' w' := fun {a' w'} hR'=>by
        have hatn : kK pre vs tm (fun j=>(listed.setIfInBounds i true).getD j true) (z6 tm' d v) := by
         refine ⟨fun j x u t hj hu hx hE=>?_,fun t ht=>?_⟩
         . by_cases e : j = i
           . subst e
             rw [hpi] at hj;cases hj
             rw [hv] at hu;cases hu
             rw [hdst] at hx;cases hx
             exact updT_same _ _ _
           . have hne : t ≠ d := fun e'=>e (hdist j i x o t hj hpi hx (by rw [hdst,e']))
             rw [updT_ne _ hne]
             refine hat'.1 j x u t hj hu hx ?_
             simp only [hget,if_neg e] at hE
             exact hE
         . have hne : t ≠ d := fun e'=>ht i o hpi (by simp only [hget,if_true]) (by rw [hdst,e'])
           rw [updT_ne _ hne]
           exact hat'.2 t (fun j x hj hE=>ht j x hj (hgetT j hE))
        refine ih _ a' w' hsz' hcnt' hcl' ?_
        by_cases hleft : ∃ j,j < pre.length /\ (listed.setIfInBounds i true).getD j true = false
        . refine .inl ⟨hleft,fun k hk1 hk2=>?_,_,hatn,hR'⟩
          rw [hget,if_neg omG];exact htail0 k hk1 hk2
        . have hall : ∀ j,j < pre.length -> (listed.setIfInBounds i true).getD j true = true := fun j hj=>by
           cases hlj : (listed.setIfInBounds i true).getD j true with
           | true=>rfl
           | false=>exact absurd ⟨j,hj,hlj⟩ hleft
          have htm : z6 tm' d v = tmE := by
           funext t
           by_cases hw : ∃ (j : Nat) (o' : Oper),pre[j]? = some o' /\ o'.dst = some t
           . obtain ⟨j,o',hj,ho't⟩ := hw
             have hjl := (List.getElem?_eq_some_iff.1 hj).1
             obtain ⟨u,hu⟩ : ∃ u,vs[j]? = some u := ⟨vs[j]'omG,List.getElem?_eq_getElem omG⟩
             rw [hatn.1 j o' u t hj hu ho't (hall j hjl),hend.1 j o' u t hj hu ho't rfl]
           . rw [hatn.2 t (fun k x hk _ hx=>hw ⟨k,x,hk,hx⟩),hend.2 t (fun k x hk _ hx=>hw ⟨k,x,hk,hx⟩)]
          rw [htm] at hR'
          refine .inr ⟨pre.length,Nat.le_refl _,hps,fun k hk=>?_,⟨n,tmE,blk⟩, ?_,hR'⟩
          . by_cases hkp : k < pre.length
            . rw [hall k hkp];simp [hkp]
            . rw [hget,if_neg omG,htail0 k omG hk];simp [hkp]
          . have : ops.toList.drop pre.length = ops.toList.drop p0 := by
             rcases Nat.lt_or_ge p0 ops.size with h1|h1
             . rw [hpp,Nat.min_eq_left omG]
             . rw [List.drop_of_length_le (by simp;omega),List.drop_of_length_le (by simp;omega)]
            rw [this];exact htl
       obtain ⟨ρ,Im,hRel'⟩ := hRel
       have runIt : pvalD P τ (ev ⟨n,tmi,blk⟩) blk o.op (· = v) -> o.wp P a w (wpAny P .any ops Q fuel (listed.setIfInBounds i true)) Q := fun hpv=>by
        rw [vU hevs] at hpv
        obtain ⟨av,e,_,haf⟩ := qby hτ hRel' (qb0 hpv)
        subst e
        refine haf _ _ fun u w' Im' hR' hu=>next ⟨ρ,Im', ?_⟩
        rw [hdst]
        exact hR'.put hdn hu
       have skipIt : v = .tup [] -> wpAny P .any ops Q fuel (listed.setIfInBounds i true) (a.put o.dst undef) w := fun e=>next ⟨ρ,Im,by
        rw [hdst,e]
        exact hRel'.put hdn cN⟩
       unfold OpOk at hok
       cases hg : o.guard with
       | none =>
        simp only [hg] at hok
        have hw : Region.wanted o (yielded ops a.tmps) = true := by simp [Region.wanted,hg]
        rw [if_pos hw]
        exact .inl (runIt hok)
       | some gw =>
        obtain ⟨g,want⟩ := gw
        simp only [hg] at hok
        obtain ⟨t,ht,hok⟩ := hok
        have htl : t ∈ o.looksAt ops := List.mem_append_right _ (by simp [hg,ht])
        rcases hok with ⟨c,hc,h1,h2⟩|⟨hc,hv0⟩
        case inr =>
         have hw := pT (S := ⟨n,tm',blk⟩) hg ht hRel' (show tm' t = _ by rw [hsame t htl];exact hc)
         rw [hw,if_neg (by decide)];exact skipIt hv0
        have hw := qT (S := ⟨n,tm',blk⟩) hg ht hRel' (show tm' t = _ by rw [hsame t htl];exact hc)
        rw [hw]
        by_cases e : c = want
        . rw [if_pos (by simp [e])];exact .inl (runIt (h1 e))
        . rw [if_neg (by simp [e])];exact skipIt (h2 e)
     . -- in the rest
       have him : i = m := by
        rcases Nat.lt_trichotomy i m with h1|h1|h1
        . have := hml i hilt
          rw [hl] at this;simp [h1] at this
        . exact h1
        . have h2 := hreach m (htk i o omG ho m h1)
          rw [hml m omG] at h2
          simp at h2
       subst him
       have hdrop : ops.toList.drop i = o :: ops.toList.drop (i + 1) := by
        have hlt : i < ops.toList.length := by simpa using hilt
        rw [List.drop_eq_getElem_cons hlt]
        congr 1
        have := Array.getElem?_eq_some_iff.1 ho
        obtain ⟨_,h2⟩ := this
        simpa using h2
       rw [hdrop] at hS
       obtain ⟨ρ,Im,hR0⟩ := hRS
       have key := sS (Q := Q) (K' := wpAny P .any ops Q fuel (listed.setIfInBounds i true)) hτ hS hR0 (fun S' a' w' hS' hR'=>by
        refine ih _ a' w' hsz' hcnt' hcl' (.inr ⟨i + 1,by omega,by omega,fun k hk=>?_,S',hS',hR'⟩)
        rw [hget]
        by_cases e : k = i
        . subst e;simp
        . rw [if_neg e,hml k hk]
          by_cases h1 : k < i
          . simp [h1,show k < i + 1 by omega]
          . simp [h1,show ¬ k < i + 1 by omega])
       split
       . rename_i hw;rw [if_pos hw] at key;exact .inl key
       . rename_i hw;rw [if_neg hw] at key;exact key
 refine wp_region_any hm (main ops.size _ a _ (by simp) ?_ (fun i o hi hl=>?_) ?_)
 . unfold bF
   rw [List.countP_eq_length.2 (fun k hk=>by have := List.mem_range.1 hk;simp [this]),List.length_range]
 . simp [hi] at hl
 . have hR' : o5 w0 G Im0 ⟨n,tm,blk⟩ a { w with drawn := w.drawn + 1 } := by
    obtain ⟨ρ,Im,hR0⟩ := hR
    exact ⟨ρ,Im,hR0.after (w' := { w with drawn := w.drawn + 1 }) (fun _ _=>rfl) (Nat.le_refl _) rfl rfl rfl (fun _ _ x=>x) (fun _ _ x => .inl x)⟩
   by_cases h0 : 0 < pre.length
   . exact .inl ⟨⟨0,h0,by simp [show 0 < ops.size by omega]⟩,fun k _ hk=>by simp [hk],tm,⟨fun j o v d hj _ _ hE=>by
      have := (List.getElem?_eq_some_iff.1 hj).1
      simp [show j < ops.size by omega] at hE,fun t _=>rfl⟩,hR'⟩
   . have hp0 : pre = [] := List.eq_nil_of_length_eq_zero omG
     have hv0 : vs = [] := List.eq_nil_of_length_eq_zero omG
     subst hv0
     rw [hp0] at hch
     have : tmE = tm := hch
     subst this
     refine .inr ⟨0,by omega,Nat.zero_le _,fun k hk=>by simp [hk],⟨n,tmE,blk⟩, ?_,hR'⟩
     have : ops.toList.drop 0 = ops.toList.drop p0 := by
      rcases Nat.eq_zero_or_pos p0 with h1|h1
      . rw [h1]
      . have : ops.size = 0 := by omega
        rw [List.drop_of_length_le (by simp [this]),List.drop_of_length_le (by simp [this])]
     rw [this];exact htl
end
section
variable {P : Program} {τ : Tys} {Im Im' : Nat -> Nat -> Prop} {ρ ρ' ρ2 : Rho} {h h' : Array Obj} {w w' : World}
variable {w0 : World} {G : GP} {Im0 : Nat -> Nat -> Prop} {S : AState} {a b : Act} {n : Nat} {tm tm' : Nat -> AV} {blk : Nat -> Option Blk} {ops : Array Oper}
theorem jX (x : Nat) (K : Nat -> Prop) : sF x K = K x := by cases x <;> rfl
/-! ### two frames that differ in some slots -/
def Agree (D : Nat -> Prop) (a b : Act) : Prop := a.defers = b.defers /\ a.tmps.size = b.tmps.size /\ ∀ t,¬ D t -> a.tmps.getD t undef = b.tmps.getD t undef
theorem Agree.weak {D D' : Nat -> Prop} (h : Agree D a b) (hD : ∀ t,D t -> D' t) : Agree D' a b := ⟨h.1,h.2.1,fun t ht=>h.2.2 t fun x=>ht (hD t x)⟩
theorem Agree.trans {D D' : Nat -> Prop} {c : Act} (h : Agree D a b) (h' : Agree D' b c) : Agree (fun t=>D t \/ D' t) a c :=
 ⟨h.1.trans h'.1,h.2.1.trans h'.2.1,fun t ht=>(h.2.2 t fun x=>ht (.inl x)).trans (h'.2.2 t fun x=>ht (.inr x))⟩
theorem qO {a : Act} {d t : Nat} {v : Value} : (a.put (some d) v).tmps.getD t undef = if t = d /\ d < a.tmps.size then v else a.tmps.getD t undef := by
 simp only [Act.put,Array.getD_eq_getD_getElem?]
 by_cases e : t = d
 . subst e
   by_cases hl : t < a.tmps.size
   . rw [Array.getElem?_setIfInBounds_self_of_lt hl,if_pos ⟨rfl,hl⟩];rfl
   . rw [if_neg (by simp [hl])]
     simp [Array.setIfInBounds,hl]
 . rw [Array.getElem?_setIfInBounds_ne (fun e'=>e e'.symm),if_neg (by simp [e])]
theorem Agree.put {D : Nat -> Prop} (h : Agree D a b) (dst : Option Nat) (v : Value) : Agree D (a.put dst v) (b.put dst v) := by
 cases dst with
 | none=>exact h
 | some d =>
  refine ⟨h.1,by simpa [Act.put] using h.2.1,fun t ht=>?_⟩
  rw [qO,qO,h.2.1,h.2.2 t ht]
theorem Agree.putD {D : Nat -> Prop} {d : Nat} (h : Agree D a b) (hd : d < b.tmps.size) (v : Value) : Agree (fun t=>D t /\ t ≠ d) (a.put (some d) v) (b.put (some d) v) := by
 refine ⟨h.1,by simpa [Act.put] using h.2.1,fun t ht=>?_⟩
 rw [qO,qO,h.2.1]
 by_cases e : t = d
 . subst e;rw [if_pos ⟨rfl,hd⟩,if_pos ⟨rfl,hd⟩]
 . rw [if_neg (fun x=>e x.1),if_neg (fun x=>e x.1)]
   exact h.2.2 t fun x=>ht ⟨x,e⟩
theorem Agree.eq (h : Agree (fun _=>False) a b) : a = b := by
 obtain ⟨ta,da⟩ := a
 obtain ⟨tb,db⟩ := b
 obtain ⟨h1,h2,h3⟩ := h
 simp only at h1 h2 h3
 subst h1
 congr 1
 refine Array.ext h2 fun i hi hj=>?_
 have := h3 i (fun x=>x)
 simpa [Array.getD_eq_getD_getElem?,hi,hj] using this
theorem Agree.eval {D : Nat -> Prop} {o : Oper} (h : Agree D a b) (hl : ∀ t ∈ o.looksAt ops,¬ D t) : ∀ x ∈ o.op.operands,a.eval x = b.eval x := fun x hx=>by
 cases x with
 | tmp t=>exact h.2.2 t (hl t (gW hx rfl))
 | _=>rfl
theorem Agree.exec {D : Nat -> Prop} {o : Oper} (h : Agree D a b) (hs : ∀ cs x,o.op ≠ .select cs x) (hl : ∀ t ∈ o.looksAt ops,¬ D t) : execOp a.eval o = execOp b.eval o :=
 execOp_congr o hs (h.eval hl)
theorem Agree.wanted {D : Nat -> Prop} {o : Oper} (h : Agree D a b) (hl : ∀ t ∈ o.looksAt ops,¬ D t) : Region.wanted o (yielded ops a.tmps) = Region.wanted o (yielded ops b.tmps) := by
 unfold Region.wanted
 cases hg : o.guard with
 | none=>rfl
 | some gw =>
  obtain ⟨g,want⟩ := gw
  have hy : yielded ops a.tmps g = yielded ops b.tmps g := by
   unfold yielded
   cases ht : (ops[g]?).bind (·.dst) with
   | none=>rfl
   | some t =>
    have := h.2.2 t (hl t (List.mem_append_right _ (by simp [hg,ht])))
    have hsz := h.2.1
    simp only [Option.bind_some]
    by_cases hlt : t < a.tmps.size
    . have hlt' : t < b.tmps.size := hsz ▸ hlt
      simp [Array.getD_eq_getD_getElem?,hlt,hlt'] at this
      simp [hlt,hlt',this]
    . have hlt' : ¬ t < b.tmps.size := hsz ▸ hlt
      simp [hlt,hlt']
  simp only [hy]
theorem qhx {D : Nat -> Prop} {o : Oper} (hab : Agree D a b) (hs : ∀ cs x,o.op ≠ .select cs x) (hl : ∀ t ∈ o.looksAt ops,¬ D t) {K K' : Act -> World -> Prop} {Q : Exit -> Act -> World -> Prop}
 (h : o.wp P b w K' (fun _ _ _=>False)) (hK : ∀ a' b' w',Agree D a' b' -> K' b' w' -> K a' w') : o.wp P a w K Q := by
 unfold Oper.wp at h ⊢
 rw [hab.exec hs hl]
 generalize (execOp b.eval o).run P w = r at h ⊢
 cases r with
 | ok n w' =>
  cases n <;> simp only [Oper.upon] at h ⊢
  case value u=>exact hK _ _ _ (hab.put _ _) h
  case skip=>exact hK _ _ _ (hab.put _ _) h
  case defer d=>exact hK _ _ _ (Agree.put (a := { a with defers := d :: a.defers }) (b := { b with defers := d :: b.defers }) ⟨by simp [hab.1],hab.2.1,hab.2.2⟩ _ _) h
  case enter f args =>
   refine Calls.mono h fun e w'' he=>?_
   cases e with
   | returned u=>exact hK _ _ _ (hab.put _ _) he
   | panicked c=>exact he.elim
   | outgrown=>obtain ⟨_,_,h⟩ := he;exact h.elim
  case row row args=>exact Rows.mono h fun u w'' he=>hK _ _ _ (hab.put _ _) he
 | halt x w' =>
  cases x <;> simp only [Oper.upon] at h ⊢ <;> exact h.elim
/-! ### an operation that computes -/
theorem OpOk.congr {o : Oper} {v : AV} (h : OpOk P τ ops n blk o tm v) (hl : ∀ t ∈ o.looksAt ops,tm' t = tm t) : OpOk P τ ops n blk o tm' v := by
 have hev : ∀ x ∈ o.op.operands,ev ⟨n,tm,blk⟩ x = ev ⟨n,tm',blk⟩ x := fun x hx=>by
  cases x with
  | tmp t=>exact (hl t (gW hx rfl)).symm
  | _=>rfl
 unfold OpOk at h ⊢
 cases hg : o.guard with
 | none=>simp only [hg] at h ⊢;rwa [<- vU hev]
 | some gw =>
  obtain ⟨g,want⟩ := gw
  simp only [hg] at h ⊢
  obtain ⟨t,ht,h⟩ := h
  have e := hl t (List.mem_append_right _ (by simp [hg,ht]))
  refine ⟨t,ht, ?_⟩
  rw [e]
  rcases h with ⟨c,h1,h2,h3⟩|h
  . exact .inl ⟨c,h1,fun hc=>by rw [<- vU hev];exact h2 hc,h3⟩
  . exact .inr h
theorem OpOk.run (hτ : d6 P τ) (hR : Rel w0 G Im0 ⟨n,tm,blk⟩ ρ Im b w) {o : Oper} {v : AV} (h : OpOk P τ ops n blk o tm v) (hnc : kG o.op = true) :
 ∃ u,AVR ρ w.heap Im v u /\ ((Region.wanted o (yielded ops b.tmps) = true /\ (execOp b.eval o).run P w = .ok (.value u) w) \/ (Region.wanted o (yielded ops b.tmps) = false /\ u = undef)) := by
 unfold OpOk at h
 have go : pvalD P τ (ev ⟨n,tm,blk⟩) blk o.op (· = v) -> ∃ u,AVR ρ w.heap Im v u /\ (execOp b.eval o).run P w = .ok (.value u) w := fun h=>by
  obtain ⟨av,e,_,u,h3,h4⟩ := qbz (S := ⟨n,tm,blk⟩) hτ hR hnc (qb0 h)
  subst e
  exact ⟨u,h4,h3⟩
 cases hg : o.guard with
 | none =>
  simp only [hg] at h
  obtain ⟨u,h1,h2⟩ := go h
  exact ⟨u,h1,.inl ⟨by simp [Region.wanted,hg],h2⟩⟩
 | some gw =>
  obtain ⟨g,want⟩ := gw
  simp only [hg] at h
  obtain ⟨t,ht,⟨c,hc,h1,h2⟩|⟨hc,hv⟩⟩ := h
  . have hw := qT (S := ⟨n,tm,blk⟩) hg ht hR hc
    by_cases e : c = want
    . obtain ⟨u,h3,h4⟩ := go (h1 e)
      exact ⟨u,h3,.inl ⟨by rw [hw];simp [e],h4⟩⟩
    . rw [h2 e]
      exact ⟨undef,cN,.inr ⟨by rw [hw];simp [e],rfl⟩⟩
  . rw [hv]
    exact ⟨undef,cN,.inr ⟨pT (S := ⟨n,tm,blk⟩) hg ht hR hc,rfl⟩⟩
theorem pre1 {o : Oper} {d : Nat} {K : AState -> Prop} (hd : o.dst = some d) (h : iB P τ ops [o] ⟨n,tm,blk⟩ K) : ∃ v,OpOk P τ ops n blk o tm v /\ d < n /\ K ⟨n,z6 tm d v,blk⟩ := by
 obtain ⟨vs,tm',hc,hK⟩ := jY [o] tm K (fun x hx=>by simp at hx;subst hx;simp [hd]) h
 cases vs with
 | nil=>exact hc.elim
 | cons v vs =>
  obtain ⟨d',h1,h2,h3,h4⟩ := hc
  rw [hd] at h1;cases h1
  cases vs with
  | nil=>rw [show tm' = z6 tm d v from h4] at hK;exact ⟨v,h3,h2,hK⟩
  | cons=>exact h4.elim
theorem qou {o : Oper} {K : Prop} (h : dT P τ ops o ⟨n,tm,blk⟩ K) : (∃ d,o.dst = some d /\ OpOk P τ ops n blk o tm (tm d)) /\ K := by
 unfold dT at h
 cases hd : o.dst with
 | none=>simp [hd] at h
 | some d =>
  simp only [hd] at h
  have go : (pvalD P τ (ev ⟨n,tm,blk⟩) blk o.op fun v=>force v fun v=>force (tm d) fun u=>v = u /\ K) -> pvalD P τ (ev ⟨n,tm,blk⟩) blk o.op (· = tm d) /\ K := fun h=>by
   obtain ⟨av,h1,h2⟩ := uU h
   simp only [gE] at h1
   obtain ⟨rfl,hK⟩ := h1
   exact ⟨h2,hK⟩
  cases hg : o.guard with
  | none =>
   simp only [hg] at h
   obtain ⟨h1,hK⟩ := go h
   exact ⟨⟨d,rfl,by unfold OpOk;simp only [hg];exact h1⟩,hK⟩
  | some gw =>
   obtain ⟨g,want⟩ := gw
   simp only [hg] at h
   cases ht : (ops[g]?).bind (·.dst) with
   | none=>simp [ht] at h
   | some t =>
    simp only [ht] at h
    split at h
    . rename_i c hc
      cases he : c == want with
      | true =>
       simp only [he] at h
       obtain ⟨h1,hK⟩ := go h
       exact ⟨⟨d,rfl,by unfold OpOk;simp only [hg];exact ⟨t,ht,.inl ⟨c,hc,fun _=>h1,fun e'=>absurd (by simpa using he) e'⟩⟩⟩,hK⟩
      | false =>
       simp only [he,gE] at h
       exact ⟨⟨d,rfl,by unfold OpOk;simp only [hg];exact ⟨t,ht,.inl ⟨c,hc,fun e'=>by simp [e'] at he,fun _=>h.1⟩⟩⟩,h.2⟩
    . rename_i hc
      simp only [gE] at h
      exact ⟨⟨d,rfl,by unfold OpOk;simp only [hg];exact ⟨t,ht,.inr ⟨hc,h.1⟩⟩⟩,h.2⟩
    . exact h.elim
theorem zY {R done ar : Nat} {K : Prop} : ∀ (E : List Ent),sE P τ ops R done ar E ⟨n,tm,blk⟩ K ->
 (∀ e ∈ E,e.p = true -> t8 R done e.a = true -> Nat.testBit ar e.i = false -> ∃ d,e.o.dst = some d /\ OpOk P τ ops n blk e.o tm (tm d)) /\ K
 | [],h=>⟨by simp,h⟩
 | e :: l,h=>by
  simp only [sE] at h
  cases hb : (e.p && t8 R done e.a && !Nat.testBit ar e.i) with
  | true =>
   simp only [hb] at h
   obtain ⟨h1,h2⟩ := qou h
   obtain ⟨h3,h4⟩ := zY l h2
   refine ⟨fun x hx hp he ht=>?_,h4⟩
   rcases List.mem_cons.1 hx with rfl|hx
   . exact h1
   . exact h3 x hx hp he ht
  | false =>
   simp only [hb] at h
   obtain ⟨h3,h4⟩ := zY l h
   refine ⟨fun x hx hp he ht=>?_,h4⟩
   rcases List.mem_cons.1 hx with rfl|hx
   . simp [hp,he,ht] at hb
   . exact h3 x hx hp he ht
/-! ### the plan -/
structure EntOk (τ : Tys) (ops : Array Oper) (E : List Ent) : Prop where
 len : E.length = ops.size
 at_ : ∀ (i : Nat) (e : Ent),E[i]? = some e -> e.i = i /\ ops[i]? = some e.o
 back : ∀ e ∈ E,∀ k,e.a.testBit k = true -> k < e.i
 anc : ∀ e ∈ E,∀ (listed : Nat -> Prop),(∀ i o,listed i -> ops[i]? = some o -> ∀ ed ∈ o.after,Region.binds .any ed = true -> listed ed.on) ->
  (∀ ed ∈ e.o.after,Region.binds .any ed = true -> listed ed.on) -> ∀ k,e.a.testBit k = true -> listed k
 trans : ∀ e ∈ E,∀ e' ∈ E,e.a.testBit e'.i = true -> ∀ k,e'.a.testBit k = true -> e.a.testBit k = true
 late : ∀ e ∈ E,e.p = true -> kR τ e.o.op = true /\ ∃ d,e.o.dst = some d /\ (∀ e' : Ent,e' ∈ E -> e'.i ≠ e.i -> e'.o.dst ≠ some d) /\ ∀ e' : Ent,e' ∈ E -> d ∈ e'.o.looksAt ops -> e'.a.testBit e.i = true
theorem EntOk.mem {E : List Ent} (hE : EntOk τ ops E) {e : Ent} (he : e ∈ E) : E[e.i]? = some e /\ ops[e.i]? = some e.o /\ e.i < ops.size := by
 obtain ⟨i,hi⟩ := List.getElem?_of_mem he
 obtain ⟨h1,h2⟩ := hE.at_ i e hi
 subst h1
 exact ⟨hi,h2,(Array.getElem?_eq_some_iff.1 h2).1⟩
theorem EntOk.uniq {E : List Ent} (hE : EntOk τ ops E) {e e' : Ent} (he : e ∈ E) (he' : e' ∈ E) (hi : e.i = e'.i) : e = e' := by
 have h1 := (hE.mem he).1
 have h2 := (hE.mem he').1
 rw [hi,h2] at h1
 cases h1;rfl
theorem EntOk.get {E : List Ent} (hE : EntOk τ ops E) {i : Nat} {o : Oper} (ho : ops[i]? = some o) : ∃ e ∈ E,e.i = i /\ e.o = o := by
 have hlt : i < E.length := by rw [hE.len];exact (Array.getElem?_eq_some_iff.1 ho).1
 have hi : E[i]? = some E[i] := List.getElem?_eq_getElem hlt
 obtain ⟨h1,h2⟩ := hE.at_ i _ hi
 rw [ho] at h2;cases h2
 exact ⟨E[i],List.getElem_mem hlt,h1,rfl⟩
theorem bP {R done a : Nat} : t8 R done a = true ↔ ∀ k,a.testBit k = true -> R.testBit k = true -> done.testBit k = true := by
 unfold t8
 rw [show (Nat.beq (Nat.lor (Nat.land a R) done) done = true) ↔ ((a &&& R) ||| done = done) from ⟨fun h=>Nat.eq_of_beq_eq_true h,fun h=>by
  show Nat.beq ((a &&& R) ||| done) done = true
  rw [h];exact Nat.beq_refl _⟩]
 constructor
 . intro h k h1 h2
   rw [<- h];simp [h1,h2]
 . intro h
   refine Nat.eq_of_testBit_eq fun k=>?_
   simp only [Nat.testBit_or,Nat.testBit_and]
   cases h1 : a.testBit k with
   | false=>simp
   | true=>cases h2 : R.testBit k with
    | false=>simp
    | true=>simp [h k h1 h2]
theorem zN : ∀ {E : List Ent} {k : Nat},(f7 E).testBit k = true ↔ ∃ e ∈ E,e.p = false /\ e.i = k
 | [],k=>by simp [f7]
 | e :: l,k=>by
  simp only [f7]
  cases hp : e.p with
  | true=>simp [zN (E := l),hp]
  | false =>
   show (2 ^ e.i ||| f7 l).testBit k = true ↔ _
   rw [Nat.testBit_or,Nat.testBit_two_pow,Bool.or_eq_true,decide_eq_true_eq,zN (E := l)]
   simp [hp]
theorem cO {done i k : Nat} : (Nat.lor done (2 ^ i)).testBit k = true ↔ done.testBit k = true \/ i = k := by
 show (done ||| 2 ^ i).testBit k = true ↔ _
 rw [Nat.testBit_or,Nat.testBit_two_pow,Bool.or_eq_true,decide_eq_true_eq]
def rD (R : Nat) (first : Bool) (done done' : Nat) (e : Ent) : Bool := e.p && t8 R done' e.a && (first || !t8 R done e.a)
theorem qde {op : Op} (h : kR τ op = true) : kG op = true := by
 unfold kR at h
 split at h
 . cases h
 . rw [Bool.and_eq_true] at h;exact h.2
theorem oU [hT : Nonempty (TabH w0.heap Im0)] (hτ : d6 P τ) {E : List Ent} (hE : EntOk τ ops E) {R done done' : Nat} {first : Bool} {K : AState -> Prop} : ∀ (l : List Ent),(∀ e ∈ l,e ∈ E) -> l.Pairwise (fun e e' : Ent=>e.i < e'.i) -> ∀ (tm : Nat -> AV) (b : Act),
 eD P τ ops R first done done' l ⟨n,tm,blk⟩ K -> o5 w0 G Im0 ⟨n,tm,blk⟩ b w ->
 ∃ tm'' b'',K ⟨n,tm'',blk⟩ /\ o5 w0 G Im0 ⟨n,tm'',blk⟩ b'' w /\ (∀ t,(∀ e ∈ l,rD R first done done' e = true -> e.o.dst ≠ some t) -> tm'' t = tm t) /\
  Agree (fun t=>∃ e ∈ l,rD R first done done' e = true /\ e.o.dst = some t) b b'' /\
  ∀ e ∈ l,rD R first done done' e = true -> ∃ d,e.o.dst = some d /\ OpOk P τ ops n blk e.o tm'' (tm'' d)
 | [],_,_,tm,b,h,hR=>⟨tm,b,h,hR,fun _ _=>rfl,⟨rfl,rfl,fun _ _=>rfl⟩,by simp⟩
 | e :: l,hl,hpw,tm,b,h,hR=>by
  have heE := hl e (by simp)
  obtain ⟨hp1,hp2⟩ := List.pairwise_cons.1 hpw
  have ih := fun tm b h hR=>oU hτ hE (R := R) (done := done) (done' := done') (first := first) (K := K) l (fun x hx=>hl x (by simp [hx])) hp2 tm b h hR
  simp only [eD] at h
  change (match rD R first done done' e with|true=>_|false=>_) at h
  cases hN : rD R first done done' e with
  | false =>
   simp only [hN] at h
   obtain ⟨tm'',b'',h1,h2,h3,h4,h5⟩ := ih tm b h hR
   refine ⟨tm'',b'',h1,h2,fun t ht=>h3 t fun x hx=>ht x (by simp [hx]),h4.weak fun t ⟨x,hx,h⟩=>⟨x,by simp [hx],h⟩,fun x hx hNx=>?_⟩
   rcases List.mem_cons.1 hx with rfl|hx
   . rw [hN] at hNx;cases hNx
   . exact h5 x hx hNx
  | true =>
   simp only [hN] at h
   have hp : e.p = true := by simp only [rD,Bool.and_eq_true] at hN;exact hN.1.1
   obtain ⟨hlate,d,hd,hd1,hd2⟩ := hE.late e heE hp
   obtain ⟨v,hok,hdn,hK⟩ := pre1 hd h
   obtain ⟨ρ,Im,hR0⟩ := hR
   have hnc : kG e.o.op = true := qde hlate
   obtain ⟨u,hu,_⟩ := hok.run hτ hR0 hnc
   obtain ⟨tm'',b'',h1,h2,h3,h4,h5⟩ := ih _ _ hK ⟨ρ,Im,hR0.put hdn hu⟩
   have hfar : ∀ x ∈ l,x.o.dst ≠ some d := fun x hx=>hd1 x (hl x (by simp [hx])) (by have := hp1 x hx;omega)
   have hsame : ∀ t ∈ e.o.looksAt ops,tm'' t = tm t := fun t ht=>by
    have hne : t ≠ d := fun e'=>by
     subst e'
     have := hE.back e heE _ (hd2 e heE ht)
     omega
    rw [h3 t (fun x hx hNx hxd=>?_),updT_ne _ hne]
    have hpx : x.p = true := by simp only [rD,Bool.and_eq_true] at hNx;exact hNx.1.1
    have hxE := hl x (by simp [hx])
    obtain ⟨_,d2,h6,_,h7⟩ := hE.late x hxE hpx
    rw [hxd] at h6;cases h6
    have := hE.back e heE _ (h7 e heE ht)
    have := hp1 x hx
    omega
   have htd : tm'' d = v := by rw [h3 d (fun x hx _=>hfar x hx),updT_same]
   refine ⟨tm'',b'',h1,h2,fun t ht=>?_, ?_,fun x hx hNx=>?_⟩
   . rw [h3 t fun x hx=>ht x (by simp [hx]),updT_ne _ (fun e'=>ht e (by simp) hN (by rw [hd,e']))]
   . have hb : Agree (fun t=>t = d) b (b.put (some d) u) := ⟨rfl,by simp [Act.put],fun t ht=>by rw [qO,if_neg (fun x=>ht x.1)]⟩
     refine (hb.trans h4).weak fun t ht=>?_
     rcases ht with rfl|⟨x,hx,h⟩
     . exact ⟨e,by simp,hN,hd⟩
     . exact ⟨x,by simp [hx],h⟩
   . rcases List.mem_cons.1 hx with rfl|hx
     . exact ⟨d,hd,by rw [htd];exact hok.congr hsame⟩
     . exact h5 x hx hNx
theorem qbw {R done : Nat} {e : Ent} : ∀ {l : List Ent},e ∈ l -> e.p = false -> done.testBit e.i = false -> t8 R done e.a = true -> e ∈ wK R done l
 | [],h,_,_,_=>by cases h
 | x :: l,h,hp,hb,he=>by
  simp only [wK]
  rcases List.mem_cons.1 h with rfl|h
  . simp [hp,hb,he]
  . have := qbw h hp hb he
    split
    . exact List.mem_cons_of_mem _ this
    . exact this
theorem qfq {rec : Ent -> Prop} {e : Ent} : ∀ {l : List Ent},iM rec l -> e ∈ l -> rec e
 | [x],h,he=>by simp at he;subst he;exact h
 | x :: y :: l,h,he=>by
  rcases List.mem_cons.1 he with rfl|he
  . exact h.1
  . exact qfq h.2 he
theorem qkg [hT : Nonempty (TabH w0.heap Im0)] (hτ : d6 P τ) {Q : Exit -> Act -> World -> Prop} {K : AState -> Prop} {E : List Ent} (hE : EntOk τ ops E) (hback : tG ops.toList 0 = true) (hsel : kF ops.toList = true)
 (hn : ∀ S' a' w',K S' -> o5 w0 G Im0 S' a' w' -> Q .normal a' w') : ∀ (fuel : Nat) (listed : Array Bool) (a : Act) (w : World),listed.size = ops.size -> bF ops.size listed = fuel ->
  (∀ (i : Nat) (o : Oper),i < ops.size -> listed.getD i true = true -> ops[i]? = some o -> ∀ e ∈ o.after,Region.binds .any e = true -> listed.getD e.on true = true) ->
  (∃ (done f n : Nat) (tm : Nat -> AV) (blk : Nat -> Option Blk) (b : Act),
   (∀ e ∈ E,e.p = false -> listed.getD e.i true = done.testBit e.i) /\ (∀ k,done.testBit k = true -> (f7 E).testBit k = true) /\ o5 w0 G Im0 ⟨n,tm,blk⟩ b w /\
   Agree (fun t=>∃ e ∈ E,e.p = true /\ t8 (f7 E) done e.a = true /\ listed.getD e.i true = false /\ e.o.dst = some t) a b /\
   (∀ e ∈ E,e.p = true -> t8 (f7 E) done e.a = true -> listed.getD e.i true = false -> ∃ d,e.o.dst = some d /\ OpOk P τ ops n blk e.o tm (tm d)) /\
   awpR P τ ops E (f7 E) f done ⟨n,tm,blk⟩ K) ->
  wpAny P .any ops Q fuel listed a w := by
 have hpw : E.Pairwise (fun e e' : Ent=>e.i < e'.i) := by
  rw [List.pairwise_iff_getElem]
  intro i j hi hj hij
  have h1 := (hE.at_ i _ (List.getElem?_eq_getElem hi)).1
  have h2 := (hE.at_ j _ (List.getElem?_eq_getElem hj)).1
  omega
 have hbk : ∀ (i : Nat) (o : Oper),ops[i]? = some o -> ∀ e ∈ o.after,Region.binds .any e = true -> e.on < i := fun i o ho e he hb=>by
  have := qS hback (i := i) (o := o) (by simpa using ho) e he hb
  omega
 have hselE : ∀ e ∈ E,∀ cs x,e.o.op ≠ .select cs x := fun e he cs x hx=>by
  have := qcf hsel e.o (List.mem_of_getElem? (i := e.i) (by simpa using (hE.mem he).2.1))
  rw [hx] at this;cases this
 intro fuel
 induction fuel with
 | zero =>
  intro listed a w hsz hcnt hcl ⟨done,f,n,tm,blk,b,hI1,hI2,hI3,hI4,hI5,hI6⟩
  have hall : ∀ k,k < ops.size -> listed.getD k true = true := fun k hk=>by
   have := List.countP_eq_zero.1 hcnt k (List.mem_range.2 hk)
   simpa using this
  have hnil : Region.ready .any ops listed = [] := by
   cases hr : Region.ready .any ops listed with
   | nil=>rfl
   | cons x xs =>
    have : x ∈ Region.ready .any ops listed := by rw [hr];simp
    obtain ⟨h1,o,ho,_⟩ := mem_ready.1 this
    rw [hall x (Array.getElem?_eq_some_iff.1 ho).1] at h1;cases h1
  refine ⟨hnil, ?_⟩
  have hdone : done = f7 E := Nat.eq_of_testBit_eq fun k=>by
   cases hk : (f7 E).testBit k with
   | false=>cases hk' : done.testBit k with
    | false=>rfl
    | true=>rw [hI2 k hk'] at hk;cases hk
   | true =>
    obtain ⟨e,he,hp,rfl⟩ := zN.1 hk
    rw [<- hI1 e he hp]
    exact hall _ (hE.mem he).2.2
  have hab : a = b := Agree.eq (hI4.weak fun t ⟨e,he,_,_,hl,_⟩=>by
   rw [hall _ (hE.mem he).2.2] at hl;cases hl)
  subst hab
  have hbeq : Nat.beq done (f7 E) = true := by rw [hdone];exact Nat.beq_refl _
  cases f with
  | zero=>simp only [awpR,hbeq] at hI6;exact hn _ a w hI6 hI3
  | succ f=>simp only [awpR,hbeq] at hI6;exact hn _ a w hI6 hI3
 | succ fuel ih =>
  intro listed a w hsz hcnt hcl ⟨done,f,n,tm,blk,b,hI1,hI2,hI3,hI4,hI5,hI6⟩
  have hex : ∃ i,i < ops.size /\ listed.getD i true = false := by
   by_cases hx : ∃ i,i < ops.size /\ listed.getD i true = false
   . exact hx
   . exfalso
     have : bF ops.size listed = 0 := List.countP_eq_zero.2 (fun k hk=>by
      have hk' := List.mem_range.1 hk
      cases hlk : listed.getD k true with
      | true=>simp
      | false=>exact absurd ⟨k,hk',hlk⟩ hx)
     omega
  have hready : ∀ {i o},ops[i]? = some o -> listed.getD i true = false -> (∀ e ∈ o.after,Region.binds .any e = true -> listed.getD e.on true = true) -> i ∈ Region.ready .any ops listed := fun {i o} ho hl hed =>
   mem_ready.2 ⟨hl,o,ho,fun e he hb=>qev (by have := hbk i o ho e he hb;have := (Array.getElem?_eq_some_iff.1 ho).1;omega) (hed e he hb)⟩
  have hanc : ∀ e ∈ E,(∀ ed ∈ e.o.after,Region.binds .any ed = true -> listed.getD ed.on true = true) -> ∀ k,e.a.testBit k = true -> listed.getD k true = true := fun e he hed =>
   hE.anc e he (fun k=>listed.getD k true = true) (fun i o hi ho=>hcl i o (Array.getElem?_eq_some_iff.1 ho).1 hi ho) hed
  have hen : ∀ e ∈ E,(∀ ed ∈ e.o.after,Region.binds .any ed = true -> listed.getD ed.on true = true) -> t8 (f7 E) done e.a = true := fun e he hed =>
   bP.2 fun k hk hkR=>by
    obtain ⟨e',he',hp',rfl⟩ := zN.1 hkR
    rw [<- hI1 e' he' hp'];exact hanc e he hed _ hk
  refine ⟨fun hnil=>?_,fun i hi=>?_⟩
  . exfalso
    obtain ⟨i0,h1,h2⟩ := hex
    obtain ⟨m,hm1,hm2,hm3⟩ := least (p := fun i=>i < ops.size /\ listed.getD i true = false) i0 ⟨h1,h2⟩
    have hmem := hready (Array.getElem?_eq_getElem hm2.1) hm2.2 (fun e he hb=>by
     have hlt := hbk m _ (Array.getElem?_eq_getElem hm2.1) e he hb
     cases hle : listed.getD e.on true with
     | true=>rfl
     | false=>exact absurd ⟨by omega,hle⟩ (hm3 e.on hlt))
    rw [hnil] at hmem;cases hmem
  . obtain ⟨hl,o,ho,hed⟩ := mem_ready.1 hi
    have hilt : i < ops.size := (Array.getElem?_eq_some_iff.1 ho).1
    have hedT : ∀ e ∈ o.after,Region.binds .any e = true -> listed.getD e.on true = true := fun e he hb=>qeu (hed e he hb)
    have hcnt' : bF ops.size (listed.setIfInBounds i true) = fuel := by have := qah hilt hsz hl;omega
    have hget : ∀ j,(listed.setIfInBounds i true).getD j true = if j = i then true else listed.getD j true := fun j=>by
     by_cases e : j = i
     . subst e;simp [hsz,hilt]
     . rw [if_neg e,getD_set_ne true (fun e'=>e e'.symm)]
    have hgetT : ∀ j,listed.getD j true = true -> (listed.setIfInBounds i true).getD j true = true := fun j hj=>by rw [hget];split <;> simp_all
    have hcl' : ∀ (j : Nat) (o : Oper),j < ops.size -> (listed.setIfInBounds i true).getD j true = true -> ops[j]? = some o -> ∀ e ∈ o.after,Region.binds .any e = true -> (listed.setIfInBounds i true).getD e.on true = true := fun j o' hj hlj ho' e he hb=>by
     refine hgetT _ ?_
     rw [hget] at hlj
     by_cases e' : j = i
     . subst e';rw [ho] at ho';cases ho';exact hedT e he hb
     . rw [if_neg e'] at hlj;exact hcl j o' hj hlj ho' e he hb
    have hsz' : (listed.setIfInBounds i true).size = ops.size := by simpa using hsz
    obtain ⟨e,heE,hei,heo⟩ := hE.get ho
    subst heo
    subst hei
    have hancE := hanc e heE hedT
    have henE := hen e heE hedT
    have hlook : ∀ t ∈ e.o.looksAt ops,¬ ∃ e' ∈ E,e'.p = true /\ t8 (f7 E) done e'.a = true /\ listed.getD e'.i true = false /\ e'.o.dst = some t := by
     rintro t ht ⟨e',he',hp',_,hl',hd'⟩
     obtain ⟨_,d,h1,_,h2⟩ := hE.late e' he' hp'
     rw [hd'] at h1;cases h1
     rw [hancE _ (h2 e heE ht)] at hl';cases hl'
    unfold wpOp
    simp only [ho]
    rw [hI4.wanted hlook]
    cases hp : e.p with
    | true =>
     obtain ⟨d,hd,hok⟩ := hI5 e heE hp henE hl
     obtain ⟨hlate,d',hd',hd1,_⟩ := hE.late e heE hp
     rw [hd] at hd';cases hd'
     obtain ⟨ρ,Im,hR0⟩ := hI3
     obtain ⟨u,hu,hrun⟩ := hok.run hτ hR0 (qde hlate)
     have hdn : d < n \/ ¬ d < n := Nat.lt_or_ge d n |>.imp id Nat.not_lt.2
     have next : wpAny P .any ops Q fuel (listed.setIfInBounds e.i true) (a.put e.o.dst u) w := by
      refine ih _ _ w hsz' hcnt' hcl' ⟨done,f,n,tm,blk,b.put e.o.dst u,fun e' he' hp'=>?_,hI2, ?_, ?_,fun e' he' hp' hen' hl'=>?_,hI6⟩
      . rw [hget,if_neg (fun x=>by have := hE.uniq he' heE x;subst this;rw [hp] at hp';cases hp')];exact hI1 e' he' hp'
      . refine ⟨ρ,Im, ?_⟩
        rw [hd]
        rcases hdn with hdn|hdn
        . have := hR0.put hdn hu
          rwa [tT rfl] at this
        . have e1 : b.put (some d) u = b := by
           have : ¬ d < b.tmps.size := by rw [hR0.size];exact hdn
           simp [Act.put,Array.setIfInBounds,this]
          rw [e1];exact hR0
      . rw [hd]
        rcases hdn with hdn|hdn
        . refine (hI4.putD (by rw [hR0.size];exact hdn) u).weak ?_
          rintro t ⟨⟨e',he',hp',hen',hl',hdt⟩,hne⟩
          refine ⟨e',he',hp',hen', ?_,hdt⟩
          rw [hget,if_neg (fun x=>?_)]
          . exact hl'
          . have := hE.uniq he' heE x
            subst this
            rw [hd] at hdt;cases hdt
            exact hne rfl
        . have hbs : ¬ d < b.tmps.size := by rw [hR0.size];exact hdn
          have e1 : b.put (some d) u = b := by simp [Act.put,Array.setIfInBounds,hbs]
          have e2 : a.put (some d) u = a := by
           have : ¬ d < a.tmps.size := by rw [hI4.2.1];exact hbs
           simp [Act.put,Array.setIfInBounds,this]
          rw [e1,e2]
          refine ⟨hI4.1,hI4.2.1,fun t ht=>?_⟩
          by_cases e3 : t = d
          . subst e3
            have h1 : ¬ t < a.tmps.size := by rw [hI4.2.1];exact hbs
            simp [Array.getD_eq_getD_getElem?,hbs,h1]
          . refine hI4.2.2 t fun ⟨e',he',hp',hen',hl',hdt⟩=>ht ⟨e',he',hp',hen', ?_,hdt⟩
            rw [hget,if_neg (fun x=>?_)]
            . exact hl'
            . have := hE.uniq he' heE x
              subst this
              rw [hd] at hdt;cases hdt
              exact e3 rfl
      . refine hI5 e' he' hp' hen' ?_
        rw [hget] at hl'
        by_cases x : e'.i = e.i
        . rw [if_pos x] at hl';cases hl'
        . rwa [if_neg x] at hl'
     rcases hrun with ⟨hw,hr⟩|⟨hw,hu0⟩
     . rw [if_pos hw]
       refine .inl ?_
       unfold Oper.wp
       rw [hI4.exec (hselE e heE) hlook,hr]
       exact next
     . rw [if_neg (by rw [hw];decide)]
       subst hu0;exact next
    | false =>
     have hdn : done.testBit e.i = false := by rw [<- hI1 e heE hp];exact hl
     have hRe : (f7 E).testBit e.i = true := zN.2 ⟨e,heE,hp,rfl⟩
     have hbeq : Nat.beq done (f7 E) = false := by
      cases hb : Nat.beq done (f7 E) with
      | false=>rfl
      | true=>rw [Nat.eq_of_beq_eq_true hb,hRe] at hdn;cases hdn
     cases f with
     | zero=>unfold awpR at hI6;rw [hbeq] at hI6;exact hI6.elim
     | succ f =>
      simp only [awpR,hbeq] at hI6
      have hstep := qfq hI6 (qbw heE hp hdn henE)
      obtain ⟨ρ,Im,hR0⟩ := hI3
      have next : ∀ a' b' w',Agree (fun t=>∃ e ∈ E,e.p = true /\ t8 (f7 E) done e.a = true /\ listed.getD e.i true = false /\ e.o.dst = some t) a' b' ->
       (∃ S',(sE P τ ops (f7 E) done e.a E S' (sF (Nat.lor done (2 ^ e.i)) fun done'=>eD P τ ops (f7 E) false done done' E S' fun S=>awpR P τ ops E (f7 E) f done' S K)) /\ o5 w0 G Im0 S' b' w') ->
       wpAny P .any ops Q fuel (listed.setIfInBounds e.i true) a' w' := by
       rintro a' b' w' hab ⟨⟨n',tm',blk'⟩,hag,hR'⟩
       obtain ⟨hst,hrun⟩ := zY E hag
       rw [jX] at hrun
       obtain ⟨tm'',b'',h1,h2,h3,h4,h5⟩ := oU hτ hE E (fun _ h=>h) hpw tm' b' hrun hR'
       have hnotR : ∀ {e'},e' ∈ E -> e'.p = true -> e'.i ≠ e.i := fun {e'} he' hp' x=>by
        have := hE.uniq he' heE x
        subst this;rw [hp] at hp';cases hp'
       have hmono : ∀ {x},t8 (f7 E) done x = true -> t8 (f7 E) (Nat.lor done (2 ^ e.i)) x = true := fun {x} hx =>
        bP.2 fun k hk hkR=>cO.2 (.inl (bP.1 hx k hk hkR))
       have hnew : ∀ {e'},e' ∈ E -> rD (f7 E) false done (Nat.lor done (2 ^ e.i)) e' = true -> e'.p = true /\ t8 (f7 E) (Nat.lor done (2 ^ e.i)) e'.a = true /\ t8 (f7 E) done e'.a = false := fun {e'} _ h=>by
        simp only [rD,Bool.and_eq_true,Bool.false_or,Bool.not_eq_true'] at h
        exact ⟨h.1.1,h.1.2,h.2⟩
       refine ih _ a' w' hsz' hcnt' hcl' ⟨Nat.lor done (2 ^ e.i),f,n',tm'',blk',b'',fun e' he' hp'=>?_,fun k hk=>?_,h2, ?_,fun e' he' hp' hen' hl'=>?_,h1⟩
       . rw [hget]
         by_cases x : e'.i = e.i
         . rw [if_pos x];exact (cO.2 (.inr x.symm)).symm
         . rw [if_neg x,hI1 e' he' hp']
           cases hb : done.testBit e'.i with
           | true=>exact (cO.2 (.inl hb)).symm
           | false =>
            cases hb' : (Nat.lor done (2 ^ e.i)).testBit e'.i with
            | false=>rfl
            | true =>
             rcases cO.1 hb' with h|h
             . rw [hb] at h;cases h
             . exact absurd h.symm x
       . rcases cO.1 hk with h|h
         . exact hI2 k h
         . subst h;exact hRe
       . refine (hab.trans h4).weak ?_
         rintro t (⟨e',he',hp',hen',hl',hd'⟩|⟨e',he',hN,hd'⟩)
         . exact ⟨e',he',hp',hmono hen',by rw [hget,if_neg (hnotR he' hp')];exact hl',hd'⟩
         . obtain ⟨hp',hen',hold⟩ := hnew he' hN
           refine ⟨e',he',hp',hen', ?_,hd'⟩
           rw [hget,if_neg (hnotR he' hp')]
           cases hl' : listed.getD e'.i true with
           | false=>rfl
           | true =>
            have := hen e' he' (fun ed hed' hb=>hcl e'.i e'.o (hE.mem he').2.2 hl' (hE.mem he').2.1 ed hed' hb)
            rw [hold] at this;cases this
       . rw [hget,if_neg (hnotR he' hp')] at hl'
         cases hold : t8 (f7 E) done e'.a with
         | false=>exact h5 e' he' (by unfold rD;rw [hp',hen',hold];rfl)
         | true =>
          have hna : e.a.testBit e'.i = false := by
           cases hx : e.a.testBit e'.i with
           | false=>rfl
           | true=>rw [hancE _ hx] at hl';cases hl'
          obtain ⟨d,hd,hok⟩ := hst e' he' hp' hold hna
          obtain ⟨_,d',hd',hd1,_⟩ := hE.late e' he' hp'
          rw [hd] at hd';cases hd'
          have hkeep : ∀ t,(∀ e2 ∈ E,rD (f7 E) false done (Nat.lor done (2 ^ e.i)) e2 = true -> e2.o.dst ≠ some t) -> tm'' t = tm' t := h3
          have htd : tm'' d = tm' d := hkeep d fun e2 he2 hN2 hd2=>by
           refine hd1 e2 he2 (fun x=>?_) hd2
           have := hE.uniq he2 he' x
           subst this
           have := (hnew he2 hN2).2.2
           rw [hold] at this;cases this
          refine ⟨d,hd, ?_⟩
          rw [htd]
          refine hok.congr fun t ht=>hkeep t fun e2 he2 hN2 hd2=>?_
          obtain ⟨hp2,_,hold2⟩ := hnew he2 hN2
          obtain ⟨_,d2,h6,_,h7⟩ := hE.late e2 he2 hp2
          rw [hd2] at h6;cases h6
          have htr := hE.trans e' he' e2 he2 (h7 e' he' ht)
          have : t8 (f7 E) done e2.a = true := bP.2 fun k hk hkR=>bP.1 hold k (htr k hk) hkR
          rw [hold2] at this;cases this
      have key := sS (Q := fun _ _ _=>False) (K' := fun b' w'=>∃ S',(sE P τ ops (f7 E) done e.a E S' (sF (Nat.lor done (2 ^ e.i)) fun done'=>eD P τ ops (f7 E) false done done' E S' fun S=>awpR P τ ops E (f7 E) f done' S K)) /\ o5 w0 G Im0 S' b' w')
       hτ hstep hR0 (fun S' a' w' hS' hR'=>⟨S',hS',hR'⟩)
      split
      . rename_i hw
        rw [if_pos hw] at key
        exact .inl (qhx hI4 (hselE e heE) hlook key next)
      . rename_i hw
        rw [if_neg hw] at key
        exact next _ _ _ (hI4.put _ _) key
/-! ### the plan is made -/
theorem vY {n : Nat} {acc : List Nat} {k : Nat} : ∀ {es : List Go.Edge},(vG n acc es).testBit k = true ↔ ∃ ed ∈ es,Region.binds .any ed = true /\ (ed.on = k \/ (acc.getD (n - 1 - ed.on) 0).testBit k = true)
 | []=>by simp [vG]
 | ed :: l=>by
  simp only [vG]
  cases hb : Region.binds .any ed with
  | false=>simp [vY (es := l),hb]
  | true =>
   show ((2 ^ ed.on ||| acc.getD (n - 1 - ed.on) 0) ||| vG n acc l).testBit k = true ↔ _
   rw [Nat.testBit_or,Nat.testBit_or,Nat.testBit_two_pow,Bool.or_eq_true,Bool.or_eq_true,decide_eq_true_eq,vY (es := l)]
   simp only [List.mem_cons]
   constructor
   . rintro (h|⟨e,h1,h2⟩)
     . exact ⟨ed,.inl rfl,hb,h⟩
     . exact ⟨e,.inr h1,h2⟩
   . rintro ⟨e,rfl|h1,h2,h3⟩
     . exact .inl h3
     . exact .inr ⟨e,h1,h2,h3⟩
structure AncI (ops : Array Oper) (n : Nat) (out : List (Nat × Oper × Nat)) : Prop where
 len : out.length = n
 at_ : ∀ (i : Nat) (x : Nat × Oper × Nat),out[i]? = some x -> x.1 = i /\ ops[i]? = some x.2.1
 sp : ∀ (i : Nat) (x : Nat × Oper × Nat),out[i]? = some x -> ∀ k,x.2.2.testBit k = true ↔ ∃ ed ∈ x.2.1.after,Region.binds .any ed = true /\ (ed.on = k \/ ∃ y : Nat × Oper × Nat,out[ed.on]? = some y /\ y.2.2.testBit k = true)
theorem qhh (hbk : ∀ (i : Nat) (o : Oper),ops[i]? = some o -> ∀ e ∈ o.after,Region.binds .any e = true -> e.on < i) {K : List (Nat × Oper × Nat) -> Prop} : ∀ (l : List Oper) (n : Nat) (acc : List Nat) (out : List (Nat × Oper × Nat)),
 l = ops.toList.drop n -> n <= ops.size -> acc = (out.map (·.2.2)).reverse -> AncI ops n out -> eK l n acc out K -> ∃ L,AncI ops ops.size L /\ K L
 | [],n,acc,out,hl,hn,_,hI,h=>by
  have : n = ops.size := by
   have h1 := congrArg List.length hl
   simp at h1;omega
  subst this
  exact ⟨out,hI,h⟩
 | o :: l,n,acc,out,hl,hn,hacc,hI,h=>by
  simp only [eK,jX] at h
  have hlt : n < ops.toList.length := by
   have h1 := congrArg List.length hl
   simp at h1 ⊢;omega
  rw [List.drop_eq_getElem_cons hlt] at hl
  have h1 : o = ops.toList[n] := by injection hl
  have h2 : l = ops.toList.drop (n + 1) := by injection hl
  have ho : ops[n]? = some o := by rw [h1];simp
  refine qhh hbk l (n + 1) _ _ h2 (by simp at hlt;omega) (by simp [hacc]) ⟨by simp [hI.len],fun i x hx=>?_,fun i x hx k=>?_⟩ h
  . rcases Nat.lt_or_ge i n with hi|hi
    . rw [List.getElem?_append_left (by rw [hI.len];exact hi)] at hx;exact hI.at_ i x hx
    . rw [List.getElem?_append_right (by rw [hI.len];exact hi),hI.len] at hx
      have : i - n = 0 := by
       have := (List.getElem?_eq_some_iff.1 hx).1
       simp at this;omega
      rw [this] at hx;simp at hx;subst hx
      have : i = n := by omega
      subst this
      exact ⟨rfl,ho⟩
  . have ext : ∀ (m : Nat),m < n -> (out ++ [(n,o,vG n acc o.after.toList)])[m]? = out[m]? := fun m hm=>List.getElem?_append_left (by rw [hI.len];exact hm)
    rcases Nat.lt_or_ge i n with hi|hi
    . rw [ext i hi] at hx
      rw [hI.sp i x hx k]
      constructor
      . rintro ⟨ed,h3,h4,h5⟩
        have := hbk i _ (hI.at_ i x hx).2 ed h3 h4
        exact ⟨ed,h3,h4,by rw [ext _ omG];exact h5⟩
      . rintro ⟨ed,h3,h4,h5⟩
        have := hbk i _ (hI.at_ i x hx).2 ed h3 h4
        rw [ext _ omG] at h5
        exact ⟨ed,h3,h4,h5⟩
    . rw [List.getElem?_append_right (by rw [hI.len];exact hi),hI.len] at hx
      have : i - n = 0 := by
       have := (List.getElem?_eq_some_iff.1 hx).1
       simp at this;omega
      rw [this] at hx;simp at hx;subst hx
      show (vG n acc o.after.toList).testBit k = true ↔ _
      rw [vY]
      have hval : ∀ m,m < n -> ((acc.getD (n - 1 - m) 0).testBit k = true ↔ ∃ y : Nat × Oper × Nat,(out ++ [(n,o,vG n acc o.after.toList)])[m]? = some y /\ y.2.2.testBit k = true) := fun m hm=>by
       rw [ext m hm]
       have hm' : m < out.length := by rw [hI.len];exact hm
       have e1 : acc.getD (n - 1 - m) 0 = out[m].2.2 := by
        rw [hacc,List.getD_eq_getElem?_getD,List.getElem?_reverse (by simp [hI.len];omega)]
        have : (out.map (·.2.2)).length - 1 - (n - 1 - m) = m := by simp [hI.len];omega
        rw [this]
        simp [hm']
       rw [e1,List.getElem?_eq_getElem hm']
       simp
      constructor
      . rintro ⟨ed,h3,h4,h5⟩
        have := hbk n o ho ed (by simpa using h3) h4
        exact ⟨ed,by simpa using h3,h4,h5.imp id (hval _ this).1⟩
      . rintro ⟨ed,h3,h4,h5⟩
        have := hbk n o ho ed h3 h4
        exact ⟨ed,by simpa using h3,h4,h5.imp id (hval _ this).2⟩
def mkEnt (τ : Tys) (ops : Array Oper) (L : List (Nat × Oper × Nat)) (x : Nat × Oper × Nat) : Ent := ⟨x.1,x.2.1,x.2.2,eO τ ops L x.1 x.2.1⟩
theorem uX {L : List (Nat × Oper × Nat)} {K : List Ent -> Prop} : ∀ (l : List (Nat × Oper × Nat)) (out : List Ent),jH τ ops L l out K -> K (out ++ l.map (mkEnt τ ops L))
 | [],out,h=>by simpa [jH] using h
 | (i,o,a) :: l,out,h=>by
  simp only [jH] at h
  have hm : out ++ List.map (mkEnt τ ops L) ((i,o,a) :: l) = (out ++ [⟨i,o,a,eO τ ops L i o⟩]) ++ l.map (mkEnt τ ops L) := by simp [mkEnt]
  rw [hm]
  cases hb : eO τ ops L i o with
  | true=>simp only [hb] at h;exact uX l _ h
  | false=>simp only [hb] at h;exact uX l _ h
theorem ents_ok (hbk : ∀ (i : Nat) (o : Oper),ops[i]? = some o -> ∀ e ∈ o.after,Region.binds .any e = true -> e.on < i) {L : List (Nat × Oper × Nat)} (hL : AncI ops ops.size L) : EntOk τ ops (L.map (mkEnt τ ops L)) := by
 have get : ∀ {e : Ent},e ∈ L.map (mkEnt τ ops L) -> ∃ x : Nat × Oper × Nat,L[x.1]? = some x /\ e = mkEnt τ ops L x := fun {e} he=>by
  obtain ⟨x,hx,rfl⟩ := List.mem_map.1 he
  obtain ⟨i,hi⟩ := List.getElem?_of_mem hx
  have := (hL.at_ i x hi).1
  subst this
  exact ⟨x,hi,rfl⟩
 have back : ∀ (i : Nat) (x : Nat × Oper × Nat),L[i]? = some x -> ∀ k,x.2.2.testBit k = true -> k < i := by
  intro i
  induction i using Nat.strongRecOn with
  | _ i ih =>
   intro x hx k hk
   obtain ⟨ed,h1,h2,h3⟩ := (hL.sp i x hx k).1 hk
   have hlt := hbk i _ (hL.at_ i x hx).2 ed h1 h2
   rcases h3 with rfl|⟨y,hy,hyk⟩
   . exact hlt
   . have := ih ed.on hlt y hy k hyk;omega
 have anc : ∀ (listed : Nat -> Prop),(∀ i o,listed i -> ops[i]? = some o -> ∀ ed ∈ o.after,Region.binds .any ed = true -> listed ed.on) -> ∀ (i : Nat) (x : Nat × Oper × Nat),L[i]? = some x ->
  (∀ ed ∈ x.2.1.after,Region.binds .any ed = true -> listed ed.on) -> ∀ k,x.2.2.testBit k = true -> listed k := by
  intro listed hc i
  induction i using Nat.strongRecOn with
  | _ i ih =>
   intro x hx hed k hk
   obtain ⟨ed,h1,h2,h3⟩ := (hL.sp i x hx k).1 hk
   have hlt := hbk i _ (hL.at_ i x hx).2 ed h1 h2
   have hl := hed ed h1 h2
   rcases h3 with rfl|⟨y,hy,hyk⟩
   . exact hl
   . exact ih ed.on hlt y hy (fun ed' h4 h5=>hc _ _ hl (hL.at_ _ y hy).2 ed' h4 h5) k hyk
 have trans : ∀ (i : Nat) (x : Nat × Oper × Nat),L[i]? = some x -> ∀ (j : Nat) (y : Nat × Oper × Nat),L[j]? = some y -> x.2.2.testBit j = true -> ∀ k,y.2.2.testBit k = true -> x.2.2.testBit k = true := by
  intro i
  induction i using Nat.strongRecOn with
  | _ i ih =>
   intro x hx j y hy hj k hk
   obtain ⟨ed,h1,h2,h3⟩ := (hL.sp i x hx j).1 hj
   have hlt := hbk i _ (hL.at_ i x hx).2 ed h1 h2
   rcases h3 with rfl|⟨z,hz,hzj⟩
   . exact (hL.sp i x hx k).2 ⟨ed,h1,h2,.inr ⟨y,hy,hk⟩⟩
   . exact (hL.sp i x hx k).2 ⟨ed,h1,h2,.inr ⟨z,hz,ih ed.on hlt z hz j y hy hzj k hk⟩⟩
 refine ⟨by simp [hL.len],fun i e he=>?_,fun e he k hk=>?_,fun e he listed hc hed k hk=>?_,fun e he e' he' hj k hk=>?_,fun e he hp=>?_⟩
 . rw [List.getElem?_map] at he
   cases hx : L[i]? with
   | none=>simp [hx] at he
   | some x=>simp [hx] at he;subst he;exact hL.at_ i x hx
 . obtain ⟨x,hx,rfl⟩ := get he
   exact back _ x hx k hk
 . obtain ⟨x,hx,rfl⟩ := get he
   exact anc listed hc _ x hx hed k hk
 . obtain ⟨x,hx,rfl⟩ := get he
   obtain ⟨y,hy,rfl⟩ := get he'
   exact trans _ x hx _ y hy hj k hk
 . obtain ⟨x,hx,rfl⟩ := get he
   simp only [mkEnt] at hp ⊢
   unfold eO at hp
   split at hp
   . rename_i d hl hd
     rw [List.all_eq_true] at hp
     refine ⟨hl,d,hd,fun e' he' hne hd'=>?_,fun e' he' ht=>?_⟩
     . obtain ⟨y,hy,rfl⟩ := get he'
       have := hp y (List.mem_of_getElem? hy)
       obtain ⟨j,o',a⟩ := y
       simp only [mkEnt] at hne hd' this
       simp only [Bool.and_eq_true,Bool.or_eq_true,dstIs,hd'] at this
       rcases this.1 with h1|h1
       . exact hne (Nat.eq_of_beq_eq_true h1).symm
       . simp [Nat.beq_refl] at h1
     . obtain ⟨y,hy,rfl⟩ := get he'
       have := hp y (List.mem_of_getElem? hy)
       obtain ⟨j,o',a⟩ := y
       simp only [mkEnt] at ht this ⊢
       simp only [Bool.and_eq_true,Bool.or_eq_true] at this
       rcases this.2 with h1|h1
       . exfalso
         have : (o'.looksAt ops).any (fun t=>Nat.beq t d) = true := List.any_eq_true.2 ⟨d,ht,Nat.beq_refl _⟩
         rw [this] at h1;cases h1
       . exact h1
   . cases hp
theorem qfu [hT : Nonempty (TabH w0.heap Im0)] (hτ : d6 P τ) (hm : P.follows .mixedOrders = true) {id : Nat} {Q : Exit -> Act -> World -> Prop} {K : AState -> Prop} (h : uG P τ ops S K) (hR : o5 w0 G Im0 S a w)
 (hn : ∀ S' a' w',K S' -> o5 w0 G Im0 S' a' w' -> Q .normal a' w') : (Code.region id ops true).wp P Q a w := by
 unfold uG at h
 cases hb : tG ops.toList 0 && kF ops.toList with
 | false=>simp only [hb] at h
 | true =>
  simp only [hb] at h
  rw [Bool.and_eq_true] at hb
  have hbk : ∀ (i : Nat) (o : Oper),ops[i]? = some o -> ∀ e ∈ o.after,Region.binds .any e = true -> e.on < i := fun i o ho e he hb'=>by
   have := qS hb.1 (i := i) (o := o) (by simpa using ho) e he hb'
   omega
  obtain ⟨L,hL,h⟩ := qhh hbk ops.toList 0 [] [] rfl (Nat.zero_le _) rfl ⟨rfl,by simp,by simp⟩ h
  have hE := ents_ok (τ := τ) hbk hL
  have h := uX _ _ h
  simp only [List.nil_append,jX] at h
  generalize L.map (mkEnt τ ops L) = E at h hE
  obtain ⟨n,tm,blk⟩ := S
  have hpw : E.Pairwise (fun e e' : Ent=>e.i < e'.i) := by
   rw [List.pairwise_iff_getElem]
   intro i j hi hj hij
   have h1 := (hE.at_ i _ (List.getElem?_eq_getElem hi)).1
   have h2 := (hE.at_ j _ (List.getElem?_eq_getElem hj)).1
   omega
  refine wp_region_any hm ?_
  have hR' : o5 w0 G Im0 ⟨n,tm,blk⟩ a { w with drawn := w.drawn + 1 } := by
   obtain ⟨ρ,Im,hR0⟩ := hR
   exact ⟨ρ,Im,hR0.after (w' := { w with drawn := w.drawn + 1 }) (fun _ _=>rfl) (Nat.le_refl _) rfl rfl rfl (fun _ _ x=>x) (fun _ _ x => .inl x)⟩
  obtain ⟨tm'',b'',h1,h2,h3,h4,h5⟩ := oU hτ hE E (fun _ h=>h) hpw tm a h hR'
  have hnew : ∀ {e : Ent},rD (f7 E) true 0 0 e = true ↔ e.p = true /\ t8 (f7 E) 0 e.a = true := fun {e}=>by simp [rD]
  have hl0 : ∀ e ∈ E,(Array.replicate ops.size false).getD e.i true = false := fun e he=>by simp [(hE.mem he).2.2]
  refine qkg hτ hE hb.1 hb.2 hn ops.size _ a _ (by simp) ?_ (fun i o hi hl=>by simp [hi] at hl) ⟨0,E.length,n,tm'',blk,b'',fun e he _=>by rw [hl0 e he];simp,fun k hk=>by simp at hk,h2,h4.weak ?_,fun e he hp hen _=>h5 e he (hnew.2 ⟨hp,hen⟩),h1⟩
  . unfold bF
    rw [List.countP_eq_length.2 (fun k hk=>by have := List.mem_range.1 hk;simp [this]),List.length_range]
  . rintro t ⟨e,he,hN,hd⟩
    obtain ⟨h6,h7⟩ := hnew.1 hN
    exact ⟨e,he,h6,h7,hl0 e he,hd⟩
end
end Vg
