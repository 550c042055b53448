/- Simple terms are no larger than what they were made of. Condition: the term is good. -/
import Derived.Test.YtfhkodimclmcdaaGreatDoorTermMS
import Derived.Test.YtfhkodimclmcdaaGreatDoorTermV
import Derived.Test.YtfhkodimclmcdaaGreatDoorRg
namespace Vg
open Go Go.Proofs
theorem lW (t : V.Term) (i : Nat) : sizeT (kAt t.kids i) <= sizeT t := by
  rcases Nat.lt_or_ge i t.kids.length with h|h
  . have h1 := gN (ks := t.kids) (i := i) h
    have h2 := dJ t
    omega
  . have e : kAt t.kids i = K.terms.dflt := by
      show t.kids.getD i K.terms.dflt = _
      rw [List.getD_eq_getElem?_getD,List.getElem?_eq_none h];rfl
    rw [e]
    have : sizeT K.terms.dflt = 1 := by show sizeT ⟨0,0,0,ByteArray.empty,[]⟩ = 1;rw [sizeT,g6]
    have := qH t
    omega
theorem k0_sz (t : V.Term) : sizeT (k0 t) <= sizeT t := lW t 0
theorem k1_sz (t : V.Term) : sizeT (k1 t) <= sizeT t := lW t 1
theorem k2_sz (t : V.Term) : sizeT (k2 t) <= sizeT t := lW t 2
theorem ite_sz {c : Prop} [Decidable c] {a b : V.Term × Bool} {x : V.Term} {N : Nat} (ha : a = (x,false) -> sizeT x <= N) (hb : b = (x,false) -> sizeT x <= N) (h : (if c then a else b) = (x,false)) : sizeT x <= N := by
  by_cases q : c
  . rw [if_pos q] at h;exact ha h
  . rw [if_neg q] at h;exact hb h
theorem red_sz {t x : V.Term} (hr : s5 t = (x,false)) : sizeT x <= sizeT t := by
  unfold s5 dF gG iG eG fG a6 at hr
  have hp := qH t
  revert hr
  repeat' (refine ite_sz ?_ ?_)
  all_goals (intro hr;injection hr with h1 h2)
  all_goals first|(exact absurd h2 (by decide))|(subst h1;first|exact Nat.le_refl _|exact k0_sz _|exact k1_sz _|exact k2_sz _|exact Nat.le_trans (k0_sz _) (k0_sz _)|(rw [sz_c];exact hp))
theorem qcv : ∀ (f : Nat) (t : V.Term),okT t = true -> sizeT (dA f t) <= sizeT t
  | 0,t,h=>Nat.le_refl _
  | f + 1,t,h=>by
    rw [dA]
    by_cases c1 : t.kids.length = 0
    . rw [if_pos c1];exact Nat.le_refl _
    rw [if_neg c1]
    have ho : 1 <= t.op /\ t.op <= 21 := yH h (fun e=>c1 (by rw [e];rfl))
    by_cases c2 : k5 t.kids = true
    . rw [if_pos c2,sz_c];exact qH t
    rw [if_neg c2]
    by_cases c3 : (s5 t).2 = true
    . rw [if_pos c3]
      have h1 := m9 (x := (s5 t).1) h ho (Prod.ext rfl c3)
      have h3 := qcv f _ h1.1
      have h4 := h1.2
      unfold l5 at h4
      split at h4 <;> split at h4 <;> omega
    . rw [if_neg c3]
      exact red_sz (x := (s5 t).1) (Prod.ext rfl (by simpa using c3))
theorem mp_sz {op w n : Int} {ks : List V.Term} (h : (s1 op w n ks).2 = true) : sizeT (s1 op w n ks).1 <= 240 := by
  cases c : i7 (oT op w n ks) with
  | true =>
    rw [wV c]
    have h1 := qcv (l5 (oT op w n ks) + 1) _ (termP_ok c)
    unfold i7 at c
    simp only [Bool.and_eq_true,decide_eq_true_eq] at c
    exact Nat.le_trans h1 c.1.1
  | false=>rw [xV c] at h;cases h
/-! ### lists of good terms -/
noncomputable def bG (w : Int) (l : List V.Term) : Bool := l.all fun t=>decide (t.w = w) && i7 t
theorem tp_at {w : Int} {l : List V.Term} {k : Nat} (h : (k : Int) < l.length) (h2 : (l.take k).all (fun t=>decide (t.w = w) && i7 t) = true) (hw : (l.getD (k : Int).toNat K.terms.dflt).w = w) (ht : i7 ⟨(l.getD (k : Int).toNat K.terms.dflt).op,(l.getD (k : Int).toNat K.terms.dflt).w,(l.getD (k : Int).toNat K.terms.dflt).n,(l.getD (k : Int).toNat K.terms.dflt).name,(l.getD (k : Int).toNat K.terms.dflt).kids⟩ = true) : (l.take (k + 1)).all (fun t=>decide (t.w = w) && i7 t) = true := by
  rw [V.Term.eta,Int.toNat_natCast] at ht
  rw [Int.toNat_natCast] at hw
  rw [lH K.terms.dflt h,h2,hw,ht];simp
theorem tp_w {w : Int} {l : List V.Term} {k : Nat} (h : (k : Int) < l.length) (hw : ¬ (l.getD (k : Int).toNat K.terms.dflt).w = w) : bG w l = false := by
  rw [Int.toNat_natCast] at hw
  exact gK (d := K.terms.dflt) h (by rw [decide_eq_false hw];rfl)
theorem tp_t {w : Int} {l : List V.Term} {k : Nat} (h : (k : Int) < l.length) (ht : i7 ⟨(l.getD (k : Int).toNat K.terms.dflt).op,(l.getD (k : Int).toNat K.terms.dflt).w,(l.getD (k : Int).toNat K.terms.dflt).n,(l.getD (k : Int).toNat K.terms.dflt).name,(l.getD (k : Int).toNat K.terms.dflt).kids⟩ = false) : bG w l = false := by
  rw [V.Term.eta,Int.toNat_natCast] at ht
  exact gK (d := K.terms.dflt) h (by rw [ht,Bool.and_false])
structure TpK (w : Int) (l : List V.Term) (k : Nat) : Prop where
  h : (l.take k).all (fun t=>decide (t.w = w) && i7 t) = true
mutual
def evT (σ : ByteArray -> Int) : V.Term -> Int
  | ⟨op,w,n,nm,ks⟩=>if op = 0 then n else if op = 22 then σ nm else w6 ⟨op,w,n,nm,ks⟩ (y6 σ ks)
def y6 (σ : ByteArray -> Int) : List V.Term -> List Int
  | []=>[]
  | t :: ts=>evT σ t :: y6 σ ts
end
theorem jC (σ : ByteArray -> Int) (t : V.Term) : evT σ t = if t.op = 0 then t.n else if t.op = 22 then σ t.name else w6 t (y6 σ t.kids) := by cases t;rw [evT]
theorem nS {σ : ByteArray -> Int} : ∀ {l : List V.Term} {i : Nat},i < l.length -> xAt (y6 σ l) i = evT σ (kAt l i)
  | t :: ts,0,_=>by rw [y6];rfl
  | t :: ts,i + 1,h=>by
    rw [y6]
    exact nS (l := ts) (i := i) (by simpa using h)
theorem sX (σ : ByteArray -> Int) : ∀ l : List V.Term,(y6 σ l).length = l.length
  | []=>by rw [y6];rfl
  | t :: ts=>by rw [y6,List.length_cons,List.length_cons,sX σ ts]
def w7 (σ : ByteArray -> Int) (t : V.Term) : Prop := ∀ v,v ∈ varsT t -> wordP v.2 (σ v.1) = true
theorem sZ (t : V.Term) : varsT t = if t.op = 22 then (t.name,t.w) :: l7 t.kids else l7 t.kids := by cases t;rw [varsT]
theorem rZ : ∀ {l : List V.Term} {i : Nat} {v : ByteArray × Int},v ∈ varsT (kAt l i) -> v ∈ l7 l
  | [],i,v,h=>by
    have e : kAt [] i = K.terms.dflt := by cases i <;> rfl
    rw [e] at h
    have : varsT K.terms.dflt = [] := by show varsT ⟨0,0,0,ByteArray.empty,[]⟩ = [];rw [varsT,if_neg (by decide),l7]
    rw [this] at h
    cases h
  | t :: ts,0,v,h=>by rw [l7];exact List.mem_append_left _ h
  | t :: ts,i + 1,v,h=>by rw [l7];exact List.mem_append_right _ (rZ (l := ts) (i := i) h)
theorem oR {t : V.Term} {i : Nat} {v : ByteArray × Int} (h : v ∈ varsT (kAt t.kids i)) : v ∈ varsT t := by
  have := rZ h
  rw [sZ]
  split
  . exact List.mem_cons_of_mem _ this
  . exact this
theorem sB {t : V.Term} {v : ByteArray × Int} (h : v ∈ varsT (k0 t)) : v ∈ varsT t := oR h
theorem eH {t : V.Term} {v : ByteArray × Int} (h : v ∈ varsT (k1 t)) : v ∈ varsT t := oR h
theorem nW {t : V.Term} {v : ByteArray × Int} (h : v ∈ varsT (k2 t)) : v ∈ varsT t := oR h
theorem iP {w n : Int} {v : ByteArray × Int} (h : v ∈ varsT (cT w n)) : False := by
  rw [varsT,if_neg (by decide),l7] at h;cases h
theorem qca {op w n : Int} {a : V.Term} {v : ByteArray × Int} (ho : op ≠ 22) (h : v ∈ varsT (oT op w n [a])) : v ∈ varsT a := by
  rw [varsT,if_neg ho,l7,l7,List.append_nil] at h;exact h
theorem o2_vars {op w n : Int} {a b : V.Term} {v : ByteArray × Int} (ho : op ≠ 22) (h : v ∈ varsT (oT op w n [a,b])) : v ∈ varsT a \/ v ∈ varsT b := by
  rw [varsT,if_neg ho,l7,l7,l7,List.append_nil,List.mem_append] at h;exact h
theorem o3_vars {op w n : Int} {a b c : V.Term} {v : ByteArray × Int} (ho : op ≠ 22) (h : v ∈ varsT (oT op w n [a,b,c])) : v ∈ varsT a \/ v ∈ varsT b \/ v ∈ varsT c := by
  rw [varsT,if_neg ho,l7,l7,l7,l7,List.append_nil,List.mem_append,List.mem_append] at h;exact h
theorem ite_vs {c : Prop} [Decidable c] {a b : V.Term × Bool} {P : V.Term -> Prop} (ha : P a.1) (hb : P b.1) : P (if c then a else b).1 := by
  by_cases q : c
  . rw [if_pos q];exact ha
  . rw [if_neg q];exact hb
theorem sU {t : V.Term} {v : ByteArray × Int} (ho : t.op ≠ 22) : v ∈ varsT (s5 t).1 -> v ∈ varsT t := by
  refine (?_ : (fun x=>v ∈ varsT x -> v ∈ varsT t) (s5 t).1)
  unfold s5 dF gG iG eG fG a6
  repeat' (refine ite_vs (P := fun x=>v ∈ varsT x -> v ∈ varsT t) ?_ ?_)
  all_goals (intro h;dsimp only at h)
  all_goals first|exact h|exact sB h|exact eH h|exact nW h|exact sB (sB h)|exact (iP h).elim|(have q := qca (by decide) h;first|exact sB q|exact eH q|exact sB (sB q)|exact sB (eH q)|exact eH (sB q))|(have q := qca ho h;first|exact sB q|exact sB (sB q))|(rcases o3_vars (by decide) h with q|q|q <;> first|exact sB (sB q)|exact nW q|exact eH q)|(rcases o2_vars ho h with q|q <;> first|exact eH q|exact (iP q).elim|exact sB q|exact eH (eH q))|skip
theorem qcu {v : ByteArray × Int} : ∀ (f : Nat) (t : V.Term),okT t = true -> v ∈ varsT (dA f t) -> v ∈ varsT t
  | 0,t,_,h=>h
  | f + 1,t,hk,h=>by
    rw [dA] at h
    by_cases c1 : t.kids.length = 0
    . rw [if_pos c1] at h;exact h
    rw [if_neg c1] at h
    have ho : 1 <= t.op /\ t.op <= 21 := yH hk (fun e=>c1 (by rw [e];rfl))
    by_cases c2 : k5 t.kids = true
    . rw [if_pos c2] at h;exact (iP h).elim
    rw [if_neg c2] at h
    by_cases c3 : (s5 t).2 = true
    . rw [if_pos c3] at h
      have h1 := m9 (x := (s5 t).1) hk ho (Prod.ext rfl c3)
      exact sU omG (qcu f _ h1.1 h)
    . rw [if_neg c3] at h
      exact sU omG h
theorem qcr {t : V.Term} {v : ByteArray × Int} (hk : okT t = true) (h : v ∈ varsT (j4 t)) : v ∈ varsT t := qcu _ t hk h
theorem qfj {σ : ByteArray -> Int} : ∀ (n : Nat) (t : V.Term),sizeT t < n -> okT t = true -> w7 σ t -> wordP t.w (evT σ t) = true
  | 0,t,h,_,_=>absurd h (Nat.not_lt_zero _)
  | n + 1,t,h,hk,hg=>by
    rw [jC]
    by_cases c1 : t.op = 0
    . rw [if_pos c1];exact (cA hk).const c1
    rw [if_neg c1]
    by_cases c2 : t.op = 22
    . rw [if_pos c2]
      exact hg (t.name,t.w) (by rw [sZ,if_pos c2];exact List.mem_cons_self ..)
    rw [if_neg c2]
    have ho := lV hk
    refine qhe hk omG (fun i hi=>?_)
    rw [nS hi]
    have h1 := gN (ks := t.kids) (i := i) hi
    have h2 := dJ t
    exact qfj n (kAt t.kids i) omG (qN hk hi) (fun v hv=>hg v (oR hv))
theorem eM {σ : ByteArray -> Int} {t : V.Term} (hk : okT t = true) (hg : w7 σ t) : wordP t.w (evT σ t) = true := qfj _ t (Nat.lt_succ_self _) hk hg
theorem qce {σ : ByteArray -> Int} {c : V.Term} (hk : okT c = true) (hw : c.w = 1) (hg : w7 σ c) : evT σ (j4 (oT 1 1 0 [c])) = 1 - evT σ c := by
  have hc := eM hk hg
  rw [hw] at hc
  have hap : ∀ x : Int,wordP 1 x = true -> w6 (oT 1 1 0 [c]) [x] = 1 - x := by
    intro x hx
    unfold w6
    rw [if_pos (.inl rfl)]
    show r7 1 c.w x = 1 - x
    rw [hw]
    unfold r7
    rw [if_pos hx,if_pos rfl];rfl
  have hev : evT σ (oT 1 1 0 [c]) = 1 - evT σ c := by
    rw [jC,if_neg (show ¬ (1 : Int) = 0 by decide),if_neg (show ¬ (1 : Int) = 22 by decide)]
    show w6 (oT 1 1 0 [c]) (y6 σ [c]) = _
    rw [y6,y6]
    exact hap _ hc
  show evT σ (dA (l5 (oT 1 1 0 [c]) + 1) (oT 1 1 0 [c])) = _
  rw [dA,if_neg (show ¬ [c].length = 0 from Nat.succ_ne_zero 0)]
  by_cases c1 : k5 [c] = true
  . rw [if_pos c1]
    have c0 : c.op = 0 := by simpa [k5] using c1
    rw [jC,if_pos rfl]
    show w6 (oT 1 1 0 [c]) (nums [c]) = _
    have e : evT σ c = c.n := by rw [jC,if_pos c0]
    rw [e] at hc ⊢
    exact hap _ hc
  rw [if_neg c1]
  have hr : s5 (oT 1 1 0 [c]) = if c.op = 1 then (k0 c,false) else (oT 1 1 0 [c],false) := by
    unfold s5 dF
    rw [if_pos (.inl rfl)];rfl
  rw [hr]
  by_cases c2 : c.op = 1
  . rw [if_pos c2,if_neg (show ¬ (false = true) from Bool.false_ne_true)]
    show evT σ (k0 c) = _
    have h0 := ok0 hk omG
    have hf := tF hk (.inl c2)
    have hg0 : w7 σ (k0 c) := fun v hv=>hg v (sB hv)
    have hw0 := eM h0 hg0
    rw [hf,hw] at hw0
    have e : evT σ c = 1 - evT σ (k0 c) := by
      rw [jC,if_neg omG,if_neg omG]
      unfold w6
      rw [if_pos (.inl c2)]
      have hl : 0 < c.kids.length := by have := zD hk (.inl c2);omega
      rw [nS hl,hf,hw,c2]
      show r7 1 1 (evT σ (k0 c)) = _
      unfold r7
      rw [if_pos hw0,if_pos rfl];rfl
    omega
  . rw [if_neg c2,if_neg (show ¬ (false = true) from Bool.false_ne_true)];exact hev
end Vg
