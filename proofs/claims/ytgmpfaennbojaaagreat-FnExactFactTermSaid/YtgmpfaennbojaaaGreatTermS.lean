/- The variables of a term, one after the other: the plain law of the sorted list. No condition. -/
import Derived.Test.YtgmpfaennbojaaaGreatRedQ
import Derived.Test.YtgmpfaennbojaaaGreatTermI
namespace Vg
open Go Go.Proofs
def lookV : List V.Val → ByteArray → Option Int
  | [], _ => none
  | v :: l, s => if v.name = s then some v.w else lookV l s
def insR : List V.Val → ByteArray → Int → List V.Val × Bool
  | [], s, w => ([⟨s, w, 0⟩], true)
  | v :: l, s, w => if sLess v.name s = true then (v :: (insR l s w).1, (insR l s w).2) else if v.name = s then (v :: l, decide (v.w = w)) else (⟨s, w, 0⟩ :: v :: l, true)
abbrev SortV (l : List V.Val) : Prop := l.Pairwise fun a b => sLess a.name b.name = true
theorem look_lt : ∀ {l : List V.Val} {s : ByteArray}, (∀ x ∈ l, sLess s x.name = true) → lookV l s = none
  | [], _, _ => rfl
  | v :: l, s, h => by
    rw [lookV, if_neg (fun e => by
      have := h v List.mem_cons_self
      rw [e, sLess_irr] at this
      cases this)]
    exact look_lt fun x hx => h x (List.mem_cons_of_mem _ hx)
theorem insR_mem : ∀ {l : List V.Val} {s : ByteArray} {w : Int} {x : V.Val}, x ∈ (insR l s w).1 → x ∈ l ∨ x.name = s
  | [], s, w, x, h => by
    rw [insR] at h
    obtain rfl := List.mem_singleton.1 h
    exact .inr rfl
  | v :: l, s, w, x, h => by
    rw [insR] at h
    split at h
    · rcases List.mem_cons.1 h with rfl | h
      · exact .inl List.mem_cons_self
      · rcases insR_mem h with h | h
        · exact .inl (List.mem_cons_of_mem _ h)
        · exact .inr h
    · split at h
      · exact .inl h
      · rcases List.mem_cons.1 h with rfl | h
        · exact .inr rfl
        · exact .inl h
theorem insR_hit : ∀ {l : List V.Val} {s : ByteArray} {w x : Int}, SortV l → lookV l s = some x → insR l s w = (l, decide (x = w))
  | [], _, _, _, _, h => by cases h
  | v :: l, s, w, x, hs, h => by
    rw [lookV] at h
    rw [insR]
    by_cases e : v.name = s
    · rw [if_pos e] at h
      cases h
      rw [if_neg (by rw [e, sLess_irr]; decide), if_pos e]
    · rw [if_neg e] at h
      have hv : sLess v.name s = true := by
        by_cases hv : sLess v.name s = true
        · exact hv
        · have h1 := sLess_tot e (by simpa using hv)
          have := look_lt (l := l) (s := s) fun y hy => sLess_tr h1 ((List.pairwise_cons.1 hs).1 y hy)
          rw [this] at h
          cases h
      rw [if_pos hv, insR_hit (List.pairwise_cons.1 hs).2 h]
theorem insR_new : ∀ {l : List V.Val} {s : ByteArray} {w : Int}, SortV l → lookV l s = none → (insR l s w).2 = true ∧ SortV (insR l s w).1 ∧ ∀ s', lookV (insR l s w).1 s' = if s = s' then some w else lookV l s'
  | [], s, w, _, _ => ⟨rfl, List.pairwise_singleton _ _, fun s' => by rw [insR]; rfl⟩
  | v :: l, s, w, hs, h => by
    rw [lookV] at h
    by_cases e : v.name = s
    · rw [if_pos e] at h; cases h
    rw [if_neg e] at h
    rw [insR]
    have hs' := List.pairwise_cons.1 hs
    by_cases hv : sLess v.name s = true
    · rw [if_pos hv]
      obtain ⟨i1, i2, i3⟩ := insR_new (w := w) hs'.2 h
      refine ⟨i1, List.pairwise_cons.2 ⟨fun x hx => ?_, i2⟩, fun s' => ?_⟩
      · rcases insR_mem hx with hx | hx
        · exact hs'.1 x hx
        · rw [hx]; exact hv
      · rw [lookV, i3, lookV]
        by_cases e2 : v.name = s'
        · rw [if_pos e2, if_neg (fun e3 => e (e2.trans e3.symm)), if_pos e2]
        · rw [if_neg e2, if_neg e2]
    · rw [if_neg hv, if_neg e]
      have h1 := sLess_tot e (by simpa using hv)
      refine ⟨rfl, List.pairwise_cons.2 ⟨fun x hx => ?_, hs⟩, fun s' => ?_⟩
      · rcases List.mem_cons.1 hx with rfl | hx
        · exact h1
        · exact sLess_tr h1 (hs'.1 x hx)
      · rw [lookV]
theorem mget_set {m : List (ByteArray × Int)} {s s' : ByteArray} {w : Int} (h : mget m s = none) : mget (mset m s w) s' = if s = s' then some w else mget m s' := by
  have hf : mfind s m 0 = none := by
    unfold mget at h
    cases e : mfind s m 0 with
    | none => rfl
    | some x => rw [e] at h; cases h
  have hm : mset m s w = m ++ [(s, w)] := by unfold mset; rw [hf]
  rw [hm]
  have ga : ∀ (m : List (ByteArray × Int)) (i j : Nat), (mfind s m j = none) → (mfind s' (m ++ [(s, w)]) i).map (·.2) = if s = s' then some w else (mfind s' m i).map (·.2) := by
    intro m
    induction m with
    | nil =>
      intro i j _
      show (mfind s' [(s, w)] i).map (·.2) = _
      rw [mfind, mfind, mfind]
      split <;> rfl
    | cons a m ih =>
      intro i j h
      obtain ⟨k, n⟩ := a
      rw [mfind] at h
      split at h
      · cases h
      · rename_i hk
        rw [List.cons_append, mfind, mfind]
        by_cases e : k = s'
        · rw [if_pos e, if_neg (fun e2 => hk (e.trans e2.symm)), if_pos e]
        · rw [if_neg e, if_neg e]
          exact ih _ _ h
  exact ga m 0 0 hf
mutual
def varL : V.Term → List V.Val → List V.Val × Bool
  | ⟨op, w, _, nm, ks⟩, l => if op = 22 then insR l nm w else varLs ks l
def varLs : List V.Term → List V.Val → List V.Val × Bool
  | [], l => (l, true)
  | t :: ts, l => if (varL t l).2 = true then varLs ts (varL t l).1 else ([], false)
end
structure RepV (l : List V.Val) (m : List (ByteArray × Int)) : Prop where
  srt : SortV l
  look : ∀ s, mget m s = lookV l s
theorem repV_0 : RepV [] [] := ⟨List.Pairwise.nil, fun _ => rfl⟩
structure VarR (vs : List (ByteArray × Int)) (m : List (ByteArray × Int)) (r : List V.Val × Bool) : Prop where
  yes : r.2 = true → ∃ m', extM m vs = some m' ∧ RepV r.1 m'
  no : r.2 = false → extM m vs = none
theorem node_leaf {op w n : Int} {nm : ByteArray} {ks : List V.Term} (h : okT ⟨op, w, n, nm, ks⟩ = true) (ho : op = 22) : ks = [] := by
  rw [okT] at h
  simp only [Bool.and_eq_true] at h
  have := (nB_iff.1 h.1.1).len
  rw [ho] at this
  have e : kidN 22 = 0 := rfl
  rw [e] at this
  exact List.length_eq_zero_iff.1 (by omega)
theorem insR_r {l : List V.Val} {m : List (ByteArray × Int)} {s : ByteArray} {w : Int} (h : RepV l m) : VarR [(s, w)] m (insR l s w) := by
  cases e : lookV l s with
  | none =>
    obtain ⟨i1, i2, i3⟩ := insR_new (w := w) h.srt e
    have hm : mget m s = none := by rw [h.look, e]
    refine ⟨fun _ => ⟨mset m s w, by simp only [extM, hm], i2, fun s' => ?_⟩, fun h2 => by rw [i1] at h2; cases h2⟩
    rw [mget_set hm, i3, h.look]
  | some x =>
    have hm : mget m s = some x := by rw [h.look, e]
    rw [insR_hit h.srt e]
    refine ⟨fun h2 => ⟨m, ?_, h⟩, fun h2 => ?_⟩
    · simp only [extM, hm]
      rw [if_pos (of_decide_eq_true h2)]
    · simp only [extM, hm]
      rw [if_neg (of_decide_eq_false h2)]
mutual
theorem varL_r : ∀ (t : V.Term) {l : List V.Val} {m : List (ByteArray × Int)}, okT t = true → RepV l m → VarR (varsT t) m (varL t l)
  | ⟨op, w, n, nm, ks⟩, l, m, ht, h => by
    rw [varL, varsT]
    by_cases ho : op = 22
    · have hk := node_leaf ht ho
      subst hk
      rw [if_pos ho, if_pos ho, varsTs]
      exact insR_r h
    · rw [if_neg ho, if_neg ho]
      rw [okT] at ht
      simp only [Bool.and_eq_true] at ht
      exact varLs_r ks ht.2 h
theorem varLs_r : ∀ (ks : List V.Term) {l : List V.Val} {m : List (ByteArray × Int)}, okTs ks = true → RepV l m → VarR (varsTs ks) m (varLs ks l)
  | [], l, m, _, h => by
    rw [varLs, varsTs]
    exact ⟨fun _ => ⟨m, rfl, h⟩, fun h => by cases h⟩
  | t :: ts, l, m, ht, h => by
    rw [okTs, Bool.and_eq_true] at ht
    have h1 := varL_r t ht.1 h
    rw [varLs, varsTs]
    by_cases hv : (varL t l).2 = true
    · rw [if_pos hv]
      obtain ⟨m', e1, r1⟩ := h1.yes hv
      have h2 := varLs_r ts ht.2 r1
      refine ⟨fun h3 => ?_, fun h3 => ?_⟩
      · obtain ⟨m2, e2, r2⟩ := h2.yes h3
        exact ⟨m2, by rw [extM_app, e1]; exact e2, r2⟩
      · rw [extM_app, e1]; exact h2.no h3
    · rw [if_neg hv]
      refine ⟨fun h3 => (by cases h3), fun _ => ?_⟩
      rw [extM_app, h1.no (by simpa using hv)]
      rfl
end
theorem varL_some {t : V.Term} (h : okT t = true) : (varL t []).2 = (extM [] (varsT t)).isSome := by
  have := varL_r t h repV_0
  cases e : (varL t []).2 with
  | true => obtain ⟨m, e1, _⟩ := this.yes e; rw [e1]; rfl
  | false => rw [this.no e]; rfl
/-! ### how the place is found, and kid by kid -/
theorem insR_at : ∀ {l : List V.Val} {s : ByteArray} {w : Int} {k : Nat}, k ≤ l.length → (l.take k).all (fun v => sLess v.name s) = true → (∀ x, l[k]? = some x → sLess x.name s = false) →
    insR l s w = match l[k]? with
      | some x => if x.name = s then (l, decide (x.w = w)) else (l.take k ++ ⟨s, w, 0⟩ :: l.drop k, true)
      | none => (l.take k ++ ⟨s, w, 0⟩ :: l.drop k, true)
  | [], s, w, k, h, _, _ => by
    obtain rfl : k = 0 := by simpa using h
    rfl
  | v :: l, s, w, 0, _, _, h => by
    have h0 := h v rfl
    rw [insR, if_neg (by rw [h0]; decide)]
    rfl
  | v :: l, s, w, k + 1, hk, ha, h => by
    rw [List.take_succ_cons, List.all_cons, Bool.and_eq_true] at ha
    rw [insR, if_pos ha.1, insR_at (k := k) (by simpa using hk) ha.2 (by simpa using h)]
    simp only [List.getElem?_cons_succ, List.take_succ_cons, List.drop_succ_cons]
    split
    · split <;> rfl
    · rfl
theorem ins_end {l : List V.Val} {s : ByteArray} {w : Int} {k : Nat} (hk : k ≤ l.length ∧ (l.take k).all (fun v => sLess v.name s) = true) (h : ¬ (k : Int) < l.length) : insR l s w = (l.take k ++ ⟨s, w, 0⟩ :: l.drop k, true) := by
  have hn : l[k]? = none := List.getElem?_eq_none (by omega)
  rw [insR_at hk.1 hk.2 (by rw [hn]; intro x hx; cases hx), hn]
theorem ins_same {l : List V.Val} {s : ByteArray} {w : Int} {k : Nat} (hk : k ≤ l.length ∧ (l.take k).all (fun v => sLess v.name s) = true) (h : (k : Int) < l.length) (hl : sLess (l.getD k K.vals.dflt).name s = false) (he : (l.getD k K.vals.dflt).name = s) : insR l s w = (l, decide ((l.getD k K.vals.dflt).w = w)) := by
  have hn : l[k]? = some (l.getD k K.vals.dflt) := by
    rw [List.getD_eq_getElem?_getD, List.getElem?_eq_getElem (by omega)]; rfl
  rw [insR_at hk.1 hk.2 (by rw [hn]; intro x hx; cases hx; exact hl), hn]
  show (if _ then _ else _) = _
  rw [if_pos he]
theorem ins_mid {l : List V.Val} {s : ByteArray} {w : Int} {k : Nat} (hk : k ≤ l.length ∧ (l.take k).all (fun v => sLess v.name s) = true) (h : (k : Int) < l.length) (hl : sLess (l.getD k K.vals.dflt).name s = false) (he : ¬ (l.getD k K.vals.dflt).name = s) : insR l s w = (l.take k ++ ⟨s, w, 0⟩ :: l.drop k, true) := by
  have hn : l[k]? = some (l.getD k K.vals.dflt) := by
    rw [List.getD_eq_getElem?_getD, List.getElem?_eq_getElem (by omega)]; rfl
  rw [insR_at hk.1 hk.2 (by rw [hn]; intro x hx; cases hx; exact hl), hn]
  show (if _ then _ else _) = _
  rw [if_neg he]
theorem ins_s {l : List V.Val} {s : ByteArray} {k : Nat} (hk : k ≤ l.length ∧ (l.take k).all (fun v => sLess v.name s) = true) (h : (k : Int) < l.length) (hl : sLess (l.getD k K.vals.dflt).name s = true) : k + 1 ≤ l.length ∧ (l.take (k + 1)).all (fun v => sLess v.name s) = true := by
  refine ⟨by omega, ?_⟩
  rw [all_step K.vals.dflt h, hk.2, hl]; rfl
noncomputable def vTo (ks : List V.Term) (l : List V.Val) (i : Nat) : List V.Val × Bool := varLs (ks.take i) l
theorem varLs_snoc : ∀ (ks : List V.Term) (k : V.Term) (l : List V.Val), (varLs ks l).2 = true → varLs (ks ++ [k]) l = if (varL k (varLs ks l).1).2 = true then varL k (varLs ks l).1 else ([], false)
  | [], k, l, _ => by
    rw [List.nil_append, varLs, varLs]
    simp only [varLs]
    split
    · rename_i h; exact Prod.ext rfl h.symm
    · rfl
  | x :: ks, k, l, h => by
    rw [List.cons_append, varLs]
    rw [varLs] at h
    by_cases hx : (varL x l).2 = true
    · rw [if_pos hx] at h ⊢
      rw [varLs_snoc ks k _ h]
      conv => rhs; rw [varLs, if_pos hx]
    · rw [if_neg hx] at h; cases h
theorem varLs_stop : ∀ (a b : List V.Term) (l : List V.Val), (varLs a l).2 = false → varLs (a ++ b) l = ([], false)
  | [], b, l, h => by rw [varLs] at h; cases h
  | x :: a, b, l, h => by
    rw [List.cons_append, varLs]
    rw [varLs] at h
    by_cases hx : (varL x l).2 = true
    · rw [if_pos hx] at h
      rw [if_pos hx, varLs_stop a b _ h]
    · rw [if_neg hx]
theorem vTo_0 (ks : List V.Term) (l : List V.Val) : vTo ks l 0 = (l, true) := by simp [vTo, varLs]
theorem vTo_s {ks : List V.Term} {l : List V.Val} {i : Nat} (hi : i < ks.length) (h : (vTo ks l i).2 = true) : vTo ks l (i + 1) = if (varL (kAt ks i) (vTo ks l i).1).2 = true then varL (kAt ks i) (vTo ks l i).1 else ([], false) := by
  unfold vTo at *
  rw [List.take_add_one, List.getElem?_eq_getElem hi]
  have e : kAt ks i = ks[i] := by rw [kAt, List.getD_eq_getElem?_getD, List.getElem?_eq_getElem hi]; rfl
  rw [e]
  exact varLs_snoc _ _ _ h
theorem vTo_e {ks : List V.Term} {l : List V.Val} {i : Nat} (hi : ¬ (i : Int) < ks.length) : vTo ks l i = varLs ks l := by
  unfold vTo
  rw [List.take_of_length_le (by omega)]
theorem vTo_n {ks : List V.Term} {l : List V.Val} {i : Nat} (h : (vTo ks l i).2 = false) : varLs ks l = ([], false) := by
  unfold vTo at *
  have := varLs_stop (ks.take i) (ks.drop i) l h
  rwa [List.take_append_drop] at this
theorem varL_op {t : V.Term} {l : List V.Val} (h : t.op = 22) : varL t l = insR l t.name t.w := by cases t; rw [varL]; exact if_pos h
theorem varL_no {t : V.Term} {l : List V.Val} (h : ¬ t.op = 22) : varL t l = varLs t.kids l := by cases t; rw [varL]; exact if_neg h
theorem insR_len : ∀ (l : List V.Val) (s : ByteArray) (w : Int), (insR l s w).1.length ≤ l.length + 1
  | [], s, w => Nat.le_refl _
  | v :: l, s, w => by
    rw [insR]
    split
    · have := insR_len l s w
      simp only [List.length_cons]
      omega
    · split <;> simp only [List.length_cons] <;> omega
mutual
theorem varL_len : ∀ (t : V.Term) (l : List V.Val), (varL t l).1.length ≤ l.length + sizeT t
  | ⟨op, w, n, nm, ks⟩, l => by
    rw [varL, sizeT]
    split
    · have := insR_len l nm w
      omega
    · have := varLs_len ks l
      omega
theorem varLs_len : ∀ (ks : List V.Term) (l : List V.Val), (varLs ks l).1.length ≤ l.length + sizeTs ks
  | [], l => by rw [varLs]; exact Nat.le_add_right _ _
  | t :: ts, l => by
    rw [varLs, sizeTs]
    have h1 := varL_len t l
    split
    · have h2 := varLs_len ts (varL t l).1
      omega
    · exact Nat.zero_le _
end
theorem sizeTs_take : ∀ (ks : List V.Term) (i : Nat), i < ks.length → sizeTs (ks.take i) + sizeT (kAt ks i) ≤ sizeTs ks
  | [], _, h => absurd h (Nat.not_lt_zero _)
  | t :: ts, 0, _ => by
    show sizeTs [] + sizeT t ≤ _
    rw [sizeTs, sizeTs]; omega
  | t :: ts, i + 1, h => by
    have := sizeTs_take ts i (by simpa using h)
    show sizeTs (t :: ts.take i) + sizeT (kAt ts i) ≤ _
    rw [sizeTs, sizeTs]; omega
structure VarI (t : V.Term) (l : List V.Val) (i : Nat) : Prop where
  le : i ≤ t.kids.length
  so : (vTo t.kids l i).2 = true
  no : ¬ t.op = 22
theorem varI_0 {t : V.Term} {l : List V.Val} (h : ¬ t.op = 22) : VarI t l 0 := ⟨Nat.zero_le _, by rw [vTo_0], h⟩
theorem varI_s {t : V.Term} {l : List V.Val} {i : Nat} (h : VarI t l i) (hi : (i : Int) < t.kids.length) (hy : (varL (kE t.kids i) (vTo t.kids l i).1).2 = true) : VarI t l (i + 1) ∧ vTo t.kids l (i + 1) = varL (kE t.kids i) (vTo t.kids l i).1 := by
  rw [kE_eq] at hy ⊢
  have e : vTo t.kids l (i + 1) = varL (kAt t.kids i) (vTo t.kids l i).1 := by rw [vTo_s (by omega) h.so, if_pos hy]
  exact ⟨⟨by omega, by rw [e]; exact hy, h.no⟩, e⟩
theorem varI_n {t : V.Term} {l : List V.Val} {i : Nat} (h : VarI t l i) (hi : (i : Int) < t.kids.length) (hy : (varL (kE t.kids i) (vTo t.kids l i).1).2 = false) : varL t l = ([], false) := by
  rw [kE_eq] at hy
  rw [varL_no h.no]
  have e : vTo t.kids l (i + 1) = ([], false) := by rw [vTo_s (by omega) h.so, if_neg (by rw [hy]; decide)]
  exact vTo_n (i := i + 1) (by rw [e])
theorem varI_e {t : V.Term} {l : List V.Val} {i : Nat} (h : VarI t l i) (hi : ¬ (i : Int) < t.kids.length) : varL t l = ((vTo t.kids l i).1, true) := by
  rw [varL_no h.no, ← vTo_e hi]
  exact Prod.ext rfl h.so
theorem varI_l {t : V.Term} {l : List V.Val} {i : Nat} (_h : VarI t l i) (hi : (i : Int) < t.kids.length) (hl : l.length + sizeT t ≤ 1048576) : (vTo t.kids l i).1.length + sizeT (kE t.kids i) ≤ 1048576 := by
  rw [kE_eq]
  have h1 := varLs_len (t.kids.take i) l
  have h2 := sizeTs_take t.kids i (by omega)
  have h3 := sz_kids t
  unfold vTo
  omega
end Vg

namespace Vg
open Go Go.Proofs
theorem byt_lt (s : ByteArray) (k : Nat) : 0 ≤ bytAt s k ∧ bytAt s k < 256 := by
  unfold bytAt
  have := UInt8.toNat_lt (s.data.toList.getD k 0)
  omega
theorem wrap_byt (s : ByteArray) (k : Nat) : IntKind.i64.wrap (bytAt s k) = bytAt s k := by
  have := byt_lt s k
  exact wrap_id (by omega) (by omega)
theorem name_s' {s : ByteArray} {k : Nat} (h : nameTo s k = true) (hc : (97 ≤ bytAt s k ∧ bytAt s k ≤ 122) ∨ (48 ≤ bytAt s k ∧ bytAt s k ≤ 57 ∧ 0 < k)) : nameTo s (k + 1) = true := name_s h hc
theorem nameS_end {s : ByteArray} {k : Nat} (hk : k ≤ s.size ∧ nameTo s k = true) (h : ¬ (k : Int) < s.size) : isNameP s = inP s.size 1 8 := by
  have e : k = s.size := by omega
  unfold isNameP
  rw [← e, hk.2, Bool.and_true]
set_option maxRecDepth 100000 in
theorem s_IsName (s : ByteArray) (hs : s.size ≤ 1048576) : CallsV Tryz.prog 67 [.dat (.str s)] (.dat (.bool (isNameP s))) := by
  refine CallsV.of_awp tauOk mixOk Tryz.func67 rfl rfl rfl ?_
  conv => whnf
  repeat' (first | ((with_reducible refine fun (K1 : AX → AState → Prop) hK => ?_); refine stK ⟨?_⟩) | ((with_reducible show K1 _ _); subst hK; conv => whnf) | (with_reducible exact rfl) | refine st0 ⟨?_⟩ | ((with_reducible refine SplS.mk (fun h => ?_) (fun h => ?_)) <;> first | exact ctA | (subst h; conv => whnf) | (conv => whnf)) | ((with_reducible refine SplB.mk (fun h => ?_) (fun h => ?_)) <;> first | exact ctR | (conv => whnf)) | (with_reducible first | refine bnd2 ?_ ?_ | refine bnd2' ?_ ?_ | refine bndN ?_ ?_) | ((with_reducible refine and_of ?_ ?_); conv => whnf) | (refine Exists.intro ({k : Nat // k ≤ s.size ∧ nameTo s k = true}) (Exists.intro (fun ⟨k, hk⟩ => mkS Tryz.f67.ntmps [(0, .dat (.str s)), (3, .dat (.i k))] []) (Exists.intro (fun ⟨k, hk⟩ => s.size - k) (Exists.intro ⟨0, ⟨Nat.zero_le _, rfl⟩⟩ (And.intro (SubP.sub (σ := []) ⟨⟨rfl, rfl, rfl⟩, ⟨(wk_dat ?_), (wk_dat ?_), trivial⟩, trivial⟩) (fun ⟨k, hk⟩ => ?_))))); rotate_right; conv => whnf) | (refine Exists.intro (⟨k + 1, ?_⟩ : {k : Nat // k ≤ s.size ∧ nameTo s k = true}) (And.intro ?_ (SubP.sub (σ := []) ⟨⟨rfl, rfl, rfl⟩, ⟨(wk_dat ?_), (wk_dat ?_), trivial⟩, trivial⟩))) | ((with_reducible refine pcI (g := 38) ?_); refine ⟨_, s_l01In .., rfl, ?_⟩; rotate_right; conv => whnf) | ((with_reducible show Exists _); refine Exists.intro _ (And.intro (s_l01In ..) (And.intro rfl ?_)); rotate_right; conv => whnf) | (intro h; conv => whnf))
  all_goals (repeat (clear hK; clear K1))
  all_goals first | (exact di_eq (rfl : ((0 : Nat) : Int) = 0)) | exact di_eq (by rw [wrap_id (by omega) (by omega)]; omega) | exact db_eq (nameS_end hk (by with_reducible assumption)) | (have e : ((s.data.toList.getD (k : Int).toNat 0).toNat : Int) = bytAt s k := rfl; have eb := byt_lt s k; simp only [e, wrap_byt] at *; first | exact ⟨by omega, name_s' hk.2 (by simp only [inP, Bool.and_eq_true, Bool.and_eq_false_iff, decide_eq_true_eq, decide_eq_false_iff_not] at *; omega)⟩ | exact name_s' hk.2 (by simp only [inP, Bool.and_eq_true, Bool.and_eq_false_iff, decide_eq_true_eq, decide_eq_false_iff_not] at *; omega) | exact db_eq (name_no (by omega) (by simp only [inP, Bool.and_eq_true, Bool.and_eq_false_iff, decide_eq_true_eq, decide_eq_false_iff_not] at *; omega))) | omega | (dsimp only; omega) | skip
/-! ### few nodes -/
mutual
def fewT : V.Term → Int → Int
  | ⟨_, _, _, _, ks⟩, l => fewTs ks (l - 1)
def fewTs : List V.Term → Int → Int
  | [], l => l
  | k :: ks, l => if 0 ≤ l then fewTs ks (fewT k l) else l
end
mutual
theorem fewT_r : ∀ (t : V.Term) (l : Int), 0 ≤ l → ((sizeT t : Int) ≤ l → fewT t l = l - sizeT t) ∧ (l < sizeT t → fewT t l < 0) ∧ -1 ≤ fewT t l ∧ fewT t l ≤ l
  | ⟨_, _, _, _, ks⟩, l, h => by
    rw [fewT, sizeT]
    have := fewTs_r ks (l - 1) (by omega)
    refine ⟨fun h1 => ?_, fun h1 => ?_, this.2.2.1, by omega⟩
    · rw [this.1 (by omega) (by omega)]; omega
    · by_cases h0 : 0 ≤ l - 1
      · exact this.2.1 h0 (by omega)
      · have : fewTs ks (l - 1) = l - 1 := by
          cases ks with
          | nil => rw [fewTs]
          | cons k ks => rw [fewTs, if_neg h0]
        omega
theorem fewTs_r : ∀ (ks : List V.Term) (l : Int), -1 ≤ l → (0 ≤ l → (sizeTs ks : Int) ≤ l → fewTs ks l = l - sizeTs ks) ∧ (0 ≤ l → l < sizeTs ks → fewTs ks l < 0) ∧ -1 ≤ fewTs ks l ∧ fewTs ks l ≤ l
  | [], l, h => by
    rw [fewTs, sizeTs]
    refine ⟨fun _ _ => by omega, fun h1 h2 => by omega, h, Int.le_refl _⟩
  | k :: ks, l, h => by
    rw [fewTs, sizeTs]
    by_cases h0 : 0 ≤ l
    · rw [if_pos h0]
      have h1 := fewT_r k l h0
      have h2 := fewTs_r ks (fewT k l) h1.2.2.1
      refine ⟨fun _ h3 => ?_, fun _ h3 => ?_, h2.2.2.1, by omega⟩
      · have e := h1.1 (by omega)
        rw [h2.1 (by omega) (by omega), e]; omega
      · by_cases hs : (sizeT k : Int) ≤ l
        · have e := h1.1 hs
          exact h2.2.1 (by omega) (by omega)
        · have := h1.2.1 (by omega)
          omega
    · rw [if_neg h0]
      exact ⟨fun h1 => absurd h1 h0, fun h1 => absurd h1 h0, h, Int.le_refl _⟩
end
theorem few_iff (t : V.Term) : decide (fewT t 240 ≥ 0) = decide (sizeT t ≤ 240) := by
  have := fewT_r t 240 (by omega)
  rw [decide_eq_decide]
  constructor
  · intro h
    by_cases hs : sizeT t ≤ 240
    · exact hs
    · have := this.2.1 (by omega); omega
  · intro h
    have := this.1 (by omega); omega
def fTo (ks : List V.Term) (l : Int) (i : Nat) : Int := fewTs (ks.take i) l
theorem fewTs_snoc : ∀ (ks : List V.Term) (k : V.Term) (l : Int), 0 ≤ fewTs ks l → 0 ≤ l → fewTs (ks ++ [k]) l = fewT k (fewTs ks l)
  | [], k, l, _, h0 => by simp only [List.nil_append, fewTs]; rw [if_pos h0]
  | x :: ks, k, l, h, h0 => by
    rw [List.cons_append, fewTs, if_pos h0]
    rw [fewTs, if_pos h0] at h
    have h1 : 0 ≤ fewT x l := by
      by_cases hx : 0 ≤ fewT x l
      · exact hx
      · have := (fewTs_r ks (fewT x l) (fewT_r x l h0).2.2.1).2.2.2
        omega
    rw [fewTs_snoc ks k _ h h1]
    conv => rhs; rw [fewTs, if_pos h0]
theorem fewTs_stop : ∀ (a b : List V.Term) (l : Int), fewTs a l < 0 → fewTs (a ++ b) l = fewTs a l
  | [], b, l, h => by
    rw [fewTs] at h
    rw [List.nil_append]
    cases b with
    | nil => rfl
    | cons x b => simp only [fewTs]; rw [if_neg (by omega)]
  | x :: a, b, l, h => by
    rw [List.cons_append, fewTs]
    rw [fewTs] at h
    conv => rhs; rw [fewTs]
    by_cases h0 : 0 ≤ l
    · rw [if_pos h0] at h
      rw [if_pos h0, if_pos h0, fewTs_stop a b _ h]
    · rw [if_neg h0, if_neg h0]
theorem fTo_0 (ks : List V.Term) (l : Int) : fTo ks l 0 = l := by simp [fTo, fewTs]
theorem fTo_s {ks : List V.Term} {l : Int} {i : Nat} (hi : (i : Int) < ks.length) (h : fTo ks l i ≥ 0) (h0 : 0 ≤ l) : fTo ks l (i + 1) = fewT (kE ks i) (fTo ks l i) := by
  unfold fTo at *
  have hi' : i < ks.length := by omega
  rw [kE_eq, List.take_add_one, List.getElem?_eq_getElem hi']
  have e : kAt ks i = ks[i] := by rw [kAt, List.getD_eq_getElem?_getD, List.getElem?_eq_getElem hi']; rfl
  rw [e]
  exact fewTs_snoc _ _ _ h h0
theorem fTo_e {ks : List V.Term} {l : Int} {i : Nat} (hi : ¬ (i : Int) < ks.length) : fTo ks l i = fewTs ks l := by
  unfold fTo
  rw [List.take_of_length_le (by omega)]
theorem fTo_n {ks : List V.Term} {l : Int} {i : Nat} (h : ¬ fTo ks l i ≥ 0) : fTo ks l i = fewTs ks l := by
  unfold fTo at *
  have := fewTs_stop (ks.take i) (ks.drop i) l (by omega)
  rw [List.take_append_drop] at this
  exact this.symm
theorem fewT_eq (t : V.Term) (l : Int) : fewT t l = fewTs t.kids (l - 1) := by cases t; rw [fewT]
structure FewI (t : V.Term) (l : Int) (i : Nat) : Prop where
  le : i ≤ t.kids.length
  bd : -1 ≤ fTo t.kids (l - 1) i ∧ fTo t.kids (l - 1) i ≤ 240
theorem fewI_0 {t : V.Term} {l : Int} (h : 0 ≤ l ∧ l ≤ 240) : FewI t l 0 := ⟨Nat.zero_le _, by rw [fTo_0]; omega⟩
theorem fewI_l {t : V.Term} {l : Int} {i : Nat} (hl : 0 ≤ l ∧ l ≤ 240) (_h : FewI t l i) (h0 : fTo t.kids (l - 1) i ≥ 0) : 0 ≤ l - 1 := by
  by_cases hx : 0 ≤ l - 1
  · exact hx
  · have := (fewTs_r (t.kids.take i) (l - 1) (by omega)).2.2.2
    unfold fTo at h0
    omega
theorem fewI_s {t : V.Term} {l : Int} {i : Nat} (hl : 0 ≤ l ∧ l ≤ 240) (h : FewI t l i) (hi : (i : Int) < t.kids.length) (h0 : fTo t.kids (l - 1) i ≥ 0) : FewI t l (i + 1) ∧ fTo t.kids (l - 1) (i + 1) = fewT (kE t.kids i) (fTo t.kids (l - 1) i) := by
  have e := fTo_s hi h0 (fewI_l hl h h0)
  have := (fewT_r (kE t.kids i) (fTo t.kids (l - 1) i) h0).2.2
  have hb := h.bd
  exact ⟨⟨by omega, by rw [e]; omega⟩, e⟩
theorem few_e {t : V.Term} {l : Int} {i : Nat} (h : ¬ (i : Int) < t.kids.length) : fTo t.kids (l - 1) i = fewT t l := by rw [fTo_e h, fewT_eq]
theorem few_n {t : V.Term} {l : Int} {i : Nat} (h : ¬ fTo t.kids (l - 1) i ≥ 0) : fTo t.kids (l - 1) i = fewT t l := by rw [fTo_n h, fewT_eq]
structure IHFew (t : V.Term) : Prop where
  call : ∀ (op w n : Int) (nm : ByteArray) (ks : List V.Term) (l : Int), 0 ≤ l ∧ l ≤ 240 → sizeT ⟨op, w, n, nm, ks⟩ < sizeT t →
    CallsG Tryz.prog 52 [.agg [.dat (.i op), .dat (.i w), .dat (.i n), .dat (.str nm), .dat (.seq .terms ks)], .ptr 0 0] [.box [.dat (.i l)]] 1
      (fun res B => res = .dat (.bool (decide (fewT ⟨op, w, n, nm, ks⟩ l ≥ 0))) ∧ B = [.box [.dat (.i (fewT ⟨op, w, n, nm, ks⟩ l))]])
theorem ih_few {t : V.Term} (ih : IHFew t) {op w n : Int} {nm : ByteArray} {ks : List V.Term} {l : Int} (hl : 0 ≤ l ∧ l ≤ 240) (hs : sizeT ⟨op, w, n, nm, ks⟩ < sizeT t) :
    CallsG Tryz.prog 52 [.agg [.dat (.i op), .dat (.i w), .dat (.i n), .dat (.str nm), .dat (.seq .terms ks)], .ptr 0 0] [.box [.dat (.i l)]] 1
      (fun res B => res = .dat (.bool (decide (fewT ⟨op, w, n, nm, ks⟩ l ≥ 0))) ∧ B = [.box [.dat (.i (fewT ⟨op, w, n, nm, ks⟩ l))]]) := ih.call op w n nm ks l hl hs
theorem bx_fin {l l' : Int} (h : l = l') : [Blk.box [.dat (.int .i64 l)]] = [Blk.box [.dat (.i l')]] := by rw [h]
set_option maxHeartbeats 2000000 in
set_option maxRecDepth 100000 in
theorem c_few0 (t : V.Term) (l : Int) (ih : IHFew t) (hl : 0 ≤ l ∧ l ≤ 240) : CallsG Tryz.prog 52 [.agg [.dat (.i t.op), .dat (.i t.w), .dat (.i t.n), .dat (.str t.name), .dat (.seq .terms t.kids)], .ptr 0 0] [.box [.dat (.i l)]] 1 (fun res B => res = .dat (.bool (decide (fewT t l ≥ 0))) ∧ B = [.box [.dat (.i (fewT t l))]]) := by
  refine CallsG.of_awp tauOk mixOk Tryz.func52 rfl rfl rfl ?_
  conv => whnf
  repeat' (first | ((with_reducible refine fun (K1 : AX → AState → Prop) hK => ?_); refine stK ⟨?_⟩) | ((with_reducible show K1 _ _); subst hK; conv => whnf) | (with_reducible exact rfl) | refine st0 ⟨?_⟩ | ((with_reducible refine SplS.mk (fun h => ?_) (fun h => ?_)) <;> first | exact ctA | (subst h; conv => whnf) | (conv => whnf)) | ((with_reducible refine SplB.mk (fun h => ?_) (fun h => ?_)) <;> first | exact ctR | (conv => whnf)) | (with_reducible first | refine bnd2 ?_ ?_ | refine bnd2' ?_ ?_ | refine bndN ?_ ?_) | ((with_reducible refine and_of ?_ ?_); conv => whnf) | (refine Exists.intro ({i : Nat // FewI t l i}) (Exists.intro (fun ⟨i, hi⟩ => mkS Tryz.f52.ntmps [(1, .ptr 900000 0), (2, .ptr 2 0), (5, .dat (.i i))] [(900000, .box [.dat (.i (fTo t.kids (l - 1) i))]), (2, .box [.dat (.i t.op), .dat (.i t.w), .dat (.i t.n), .dat (.str t.name), .dat (.seq .terms t.kids)])]) (Exists.intro (fun ⟨i, hi⟩ => t.kids.length - i) (Exists.intro ⟨0, fewI_0 hl⟩ (And.intro (SubP.sub (σ := [(900000, some 900000), (2, some 2)]) ⟨⟨rfl, rfl, rfl⟩, ⟨⟨rfl, rfl⟩, ⟨rfl, rfl⟩, (wk_dat ?_), trivial⟩, ⟨⟨(wkC_dat ?_), trivial⟩, ⟨(wkC_dat ?_), (wkC_dat ?_), (wkC_dat ?_), (wkC_dat ?_), (wkC_dat ?_), trivial⟩, trivial⟩⟩) (fun ⟨i, hi⟩ => ?_))))); rotate_right; conv => whnf) | (refine Exists.intro (⟨i + 1, ?_⟩ : {i : Nat // FewI t l i}) (And.intro ?_ (SubP.sub (σ := [(900000, some 900000), (2, some 2)]) ⟨⟨rfl, rfl, rfl⟩, ⟨⟨rfl, rfl⟩, ⟨rfl, rfl⟩, (wk_dat ?_), trivial⟩, ⟨⟨(wkC_dat ?_), trivial⟩, ⟨(wkC_dat ?_), (wkC_dat ?_), (wkC_dat ?_), (wkC_dat ?_), (wkC_dat ?_), trivial⟩, trivial⟩⟩))) | ((with_reducible refine gcI (g := 52) ?_); refine ⟨_, _, ih_few (ih := by assumption) (hl := ?_) (hs := ?_) .., fun res B hRB => ?_⟩; rotate_right; obtain ⟨rfl, rfl⟩ := hRB; conv => whnf) | (intro h; conv => whnf))
  all_goals (repeat (clear hK; clear K1))
  all_goals first | exact di_eq (rfl : ((0 : Nat) : Int) = 0) | exact di_eq (by rw [fTo_0, wrap_id (by omega) (by omega)]) | exact (fewI_s hl hi (by with_reducible assumption) (by with_reducible assumption)).1 | exact di_eq (fewI_s hl hi (by with_reducible assumption) (by with_reducible assumption)).2 | (refine di_eq ?_; rw [wrap_id (by omega) (by omega)]; done) | (have hm : maxLen = 9223372036854775807 := rfl; refine di_eq ?_; rw [wrap_id (by omega) (by omega)]; omega) | exact hi.bd.2 | (rw [V.Term.eta]; exact size_kidT (by with_reducible assumption)) | (have e := few_e (l := l) (show ¬ (i : Int) < t.kids.length by with_reducible assumption); first | exact bx_fin e | (refine ab_fin ?_; rw [e])) | (have e := few_n (show ¬ fTo t.kids (l - 1) i ≥ 0 by with_reducible assumption); first | exact bx_fin e | (refine ab_fin ?_; rw [e])) | omega | (dsimp only; omega) | skip
end Vg
