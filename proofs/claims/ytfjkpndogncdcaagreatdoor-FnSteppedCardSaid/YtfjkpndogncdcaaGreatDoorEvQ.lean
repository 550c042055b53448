/- Simple terms are no larger than what they were made of. Condition: the term is good. -/
import Derived.Test.YtfjkpndogncdcaaGreatDoorTermMS
import Derived.Test.YtfjkpndogncdcaaGreatDoorTermV
import Derived.Test.YtfjkpndogncdcaaGreatDoorRg
namespace Vg
open Go Go.Proofs
theorem uV (t : V.Term) (i : Nat) : sizeT (kAt t.kids i) <= sizeT t := by
  rcases Nat.lt_or_ge i t.kids.length with h | h
  . have h1 := nM (ks := t.kids) (i := i) h
    have h2 := uI t
    omega
  . have e : kAt t.kids i = K.terms.dflt := by
      show t.kids.getD i K.terms.dflt = _
      rw [List.getD_eq_getElem?_getD, List.getElem?_eq_none h]; rfl
    rw [e]
    have : sizeT K.terms.dflt = 1 := by show sizeT ⟨0, 0, 0, ByteArray.empty, []⟩ = 1; rw [sizeT, a6]
    have := kH t
    omega
theorem k0_sz (t : V.Term) : sizeT (k0 t) <= sizeT t := uV t 0
theorem k1_sz (t : V.Term) : sizeT (k1 t) <= sizeT t := uV t 1
theorem k2_sz (t : V.Term) : sizeT (k2 t) <= sizeT t := uV t 2
theorem ite_sz {c : Prop} [Decidable c] {a b : V.Term × Bool} {x : V.Term} {N : Nat} (ha : a = (x, false) -> sizeT x <= N) (hb : b = (x, false) -> sizeT x <= N) (h : (if c then a else b) = (x, false)) : sizeT x <= N := by
  by_cases q : c
  . rw [if_pos q] at h; exact ha h
  . rw [if_neg q] at h; exact hb h
theorem red_sz {t x : V.Term} (hr : u5 t = (x, false)) : sizeT x <= sizeT t := by
  unfold u5 oE vF wF tF uF x5 at hr
  have hp := kH t
  revert hr
  repeat' (refine ite_sz ?_ ?_)
  all_goals (intro hr; injection hr with h1 h2)
  all_goals first | (exact absurd h2 (by decide)) | (subst h1; first | exact Nat.le_refl _ | exact k0_sz _ | exact k1_sz _ | exact k2_sz _ | exact Nat.le_trans (k0_sz _) (k0_sz _) | (rw [sz_c]; exact hp))
theorem qcc : ∀ (f : Nat) (t : V.Term), okT t = true -> sizeT (bA f t) <= sizeT t
  | 0, t, h => Nat.le_refl _
  | f + 1, t, h => by
    rw [bA]
    by_cases c1 : t.kids.length = 0
    . rw [if_pos c1]; exact Nat.le_refl _
    rw [if_neg c1]
    have ho : 1 <= t.op /\ t.op <= 21 := rH h (fun e => c1 (by rw [e]; rfl))
    by_cases c2 : y4 t.kids = true
    . rw [if_pos c2, sz_c]; exact kH t
    rw [if_neg c2]
    by_cases c3 : (u5 t).2 = true
    . rw [if_pos c3]
      have h1 := m9 (x := (u5 t).1) h ho (Prod.ext rfl c3)
      have h3 := qcc f _ h1.1
      have h4 := h1.2
      unfold g5 at h4
      split at h4 <;> split at h4 <;> omega
    . rw [if_neg c3]
      exact red_sz (x := (u5 t).1) (Prod.ext rfl (by simpa using c3))
theorem mp_sz {op w n : Int} {ks : List V.Term} (h : (u0 op w n ks).2 = true) : sizeT (u0 op w n ks).1 <= 240 := by
  cases c : z6 (oT op w n ks) with
  | true =>
    rw [gV c]
    have h1 := qcc (g5 (oT op w n ks) + 1) _ (termP_ok c)
    unfold z6 at c
    simp only [Bool.and_eq_true, decide_eq_true_eq] at c
    exact Nat.le_trans h1 c.1.1
  | false => rw [iV c] at h; cases h
/-! ### lists of good terms -/
noncomputable def pD (w : Int) (l : List V.Term) : Bool := l.all fun t => decide (t.w = w) && z6 t
theorem tp_at {w : Int} {l : List V.Term} {k : Nat} (h : (k : Int) < l.length) (h2 : (l.take k).all (fun t => decide (t.w = w) && z6 t) = true) (hw : (l.getD (k : Int).toNat K.terms.dflt).w = w) (ht : z6 ⟨(l.getD (k : Int).toNat K.terms.dflt).op, (l.getD (k : Int).toNat K.terms.dflt).w, (l.getD (k : Int).toNat K.terms.dflt).n, (l.getD (k : Int).toNat K.terms.dflt).name, (l.getD (k : Int).toNat K.terms.dflt).kids⟩ = true) : (l.take (k + 1)).all (fun t => decide (t.w = w) && z6 t) = true := by
  rw [V.Term.eta, Int.toNat_natCast] at ht
  rw [Int.toNat_natCast] at hw
  rw [dH K.terms.dflt h, h2, hw, ht]; simp
theorem tp_w {w : Int} {l : List V.Term} {k : Nat} (h : (k : Int) < l.length) (hw : ¬ (l.getD (k : Int).toNat K.terms.dflt).w = w) : pD w l = false := by
  rw [Int.toNat_natCast] at hw
  exact aK (d := K.terms.dflt) h (by rw [decide_eq_false hw]; rfl)
theorem tp_t {w : Int} {l : List V.Term} {k : Nat} (h : (k : Int) < l.length) (ht : z6 ⟨(l.getD (k : Int).toNat K.terms.dflt).op, (l.getD (k : Int).toNat K.terms.dflt).w, (l.getD (k : Int).toNat K.terms.dflt).n, (l.getD (k : Int).toNat K.terms.dflt).name, (l.getD (k : Int).toNat K.terms.dflt).kids⟩ = false) : pD w l = false := by
  rw [V.Term.eta, Int.toNat_natCast] at ht
  exact aK (d := K.terms.dflt) h (by rw [ht, Bool.and_false])
structure TpK (w : Int) (l : List V.Term) (k : Nat) : Prop where
  h : (l.take k).all (fun t => decide (t.w = w) && z6 t) = true
theorem nmT_el {l : List V.Term} {k : Nat} (h : (k : Int) < l.length) (hn : vA l = true) : nmT ⟨(l.getD (k : Int).toNat K.terms.dflt).op, (l.getD (k : Int).toNat K.terms.dflt).w, (l.getD (k : Int).toNat K.terms.dflt).n, (l.getD (k : Int).toNat K.terms.dflt).name, (l.getD (k : Int).toNat K.terms.dflt).kids⟩ = true := by
  rw [V.Term.eta, Int.toNat_natCast]
  have : ∀ {l : List V.Term} {k : Nat}, vA l = true -> k < l.length -> nmT (l.getD k K.terms.dflt) = true := by
    intro l
    induction l with
    | nil => intro k _ hk; exact absurd hk (Nat.not_lt_zero _)
    | cons t ts ih =>
      intro k hn hk
      rw [vA, Bool.and_eq_true] at hn
      cases k with
      | zero => exact hn.1
      | succ k => exact ih hn.2 (by simpa using hk)
  exact this hn omG
set_option maxRecDepth 100000 in
theorem qhx (p : V.Prog) (l : List V.Term) (hn : vA l = true) : CallsV Tryz.prog 73 [.dat (.seq .terms l), .dat (.i p.w)] (.dat (.bool (pD p.w l))) := by
  refine oV Tryz.func73 ⟨?_⟩
  repeat' (first | ((with_reducible refine fun (K1 : KT) hK => ?_); refine a7 ⟨?_⟩) | ((with_reducible show K1 _ _); subst hK; conv => whnf) | (with_reducible exact rfl) | refine st0 ⟨?_⟩ | ((with_reducible refine SplS.mk (fun h => ?_) (fun h => ?_)) <;> first | exact s5 | (subst h; conv => whnf) | (conv => whnf)) | refine s1 ⟨?_⟩ ⟨?_⟩ | (refine l5 ({k : Nat // TpK p.w l k}) (fun ⟨k, hq⟩ => j5 Tryz.f73.ntmps [(1, .dat (.i p.w)), (7, .dat (.seq .terms l)), (8, .dat (.i l.length)), (9, .dat (.i k))] []) (fun ⟨k, hq⟩ => l.length - k) ⟨0, ?_⟩ (SubP.sub (σ := []) ⟨⟨rfl, rfl, rfl⟩, ⟨o0 ?_, o0 ?_, o0 ?_, o0 ?_, trivial⟩, trivial⟩) (fun ⟨k, hq⟩ => ?_); rotate_right; conv => whnf) | (refine p5 (⟨k + 1, ?_⟩ : {k : Nat // TpK p.w l k}) ?_ (SubP.sub (σ := []) ⟨⟨rfl, rfl, rfl⟩, ⟨o0 ?_, o0 ?_, o0 ?_, o0 ?_, trivial⟩, trivial⟩)) | refine vP (qat (hn := ?_) ..) ⟨?_⟩ | (intro h; conv => whnf))
  all_goals repeat clear hK K1
  all_goals first | (with_reducible assumption) | exact ⟨rfl⟩ | ((with_reducible show (_ : Nat) < _); (dsimp only; omega)) | ((with_reducible show (_ : Int) <= _); omega) | exact nmT_el asmR hn | exact congrArg (Dat.int .i64) (wrap_succ asmR asmR).symm | exact ⟨tp_at asmR hq.h asmR asmR⟩ | exact congrArg Dat.bool (tp_w asmR asmR) | exact congrArg Dat.bool (tp_t asmR asmR) | exact congrArg Dat.bool (bK asmR hq.h) | rfl | skip
theorem qhy (w : Int) (l : List V.Term) (hn : vA l = true) : CallsV Tryz.prog 73 [.dat (.seq .terms l), .dat (.i w)] (.dat (.bool (pD w l))) := qhx ⟨w, 0, 0, []⟩ l hn
mutual
def evT (σ : ByteArray -> Int) : V.Term -> Int
  | ⟨op, w, n, nm, ks⟩ => if op = 0 then n else if op = 22 then σ nm else m6 ⟨op, w, n, nm, ks⟩ (w5 σ ks)
def w5 (σ : ByteArray -> Int) : List V.Term -> List Int
  | [] => []
  | t :: ts => evT σ t :: w5 σ ts
end
theorem wB (σ : ByteArray -> Int) (t : V.Term) : evT σ t = if t.op = 0 then t.n else if t.op = 22 then σ t.name else m6 t (w5 σ t.kids) := by cases t; rw [evT]
theorem fO {σ : ByteArray -> Int} : ∀ {l : List V.Term} {i : Nat}, i < l.length -> xAt (w5 σ l) i = evT σ (kAt l i)
  | t :: ts, 0, _ => by rw [w5]; rfl
  | t :: ts, i + 1, h => by
    rw [w5]
    exact fO (l := ts) (i := i) (by simpa using h)
theorem eO (σ : ByteArray -> Int) : ∀ l : List V.Term, (w5 σ l).length = l.length
  | [] => by rw [w5]; rfl
  | t :: ts => by rw [w5, List.length_cons, List.length_cons, eO σ ts]
def v7 (σ : ByteArray -> Int) (t : V.Term) : Prop := ∀ v, v ∈ varsT t -> wordP v.2 (σ v.1) = true
theorem zS (t : V.Term) : varsT t = if t.op = 22 then (t.name, t.w) :: i7 t.kids else i7 t.kids := by cases t; rw [varsT]
theorem zY : ∀ {l : List V.Term} {i : Nat} {v : ByteArray × Int}, v ∈ varsT (kAt l i) -> v ∈ i7 l
  | [], i, v, h => by
    have e : kAt [] i = K.terms.dflt := by cases i <;> rfl
    rw [e] at h
    have : varsT K.terms.dflt = [] := by show varsT ⟨0, 0, 0, ByteArray.empty, []⟩ = []; rw [varsT, if_neg (by decide), i7]
    rw [this] at h
    cases h
  | t :: ts, 0, v, h => by rw [i7]; exact List.mem_append_left _ h
  | t :: ts, i + 1, v, h => by rw [i7]; exact List.mem_append_right _ (zY (l := ts) (i := i) h)
theorem nN {t : V.Term} {i : Nat} {v : ByteArray × Int} (h : v ∈ varsT (kAt t.kids i)) : v ∈ varsT t := by
  have := zY h
  rw [zS]
  split
  . exact List.mem_cons_of_mem _ this
  . exact this
theorem uB {t : V.Term} {v : ByteArray × Int} (h : v ∈ varsT (k0 t)) : v ∈ varsT t := nN h
theorem wG {t : V.Term} {v : ByteArray × Int} (h : v ∈ varsT (k1 t)) : v ∈ varsT t := nN h
theorem wV {t : V.Term} {v : ByteArray × Int} (h : v ∈ varsT (k2 t)) : v ∈ varsT t := nN h
theorem oO {w n : Int} {v : ByteArray × Int} (h : v ∈ varsT (cT w n)) : False := by
  rw [varsT, if_neg (by decide), i7] at h; cases h
theorem qbr {op w n : Int} {a : V.Term} {v : ByteArray × Int} (ho : op ≠ 22) (h : v ∈ varsT (oT op w n [a])) : v ∈ varsT a := by
  rw [varsT, if_neg ho, i7, i7, List.append_nil] at h; exact h
theorem o2_vars {op w n : Int} {a b : V.Term} {v : ByteArray × Int} (ho : op ≠ 22) (h : v ∈ varsT (oT op w n [a, b])) : v ∈ varsT a \/ v ∈ varsT b := by
  rw [varsT, if_neg ho, i7, i7, i7, List.append_nil, List.mem_append] at h; exact h
theorem o3_vars {op w n : Int} {a b c : V.Term} {v : ByteArray × Int} (ho : op ≠ 22) (h : v ∈ varsT (oT op w n [a, b, c])) : v ∈ varsT a \/ v ∈ varsT b \/ v ∈ varsT c := by
  rw [varsT, if_neg ho, i7, i7, i7, i7, List.append_nil, List.mem_append, List.mem_append] at h; exact h
theorem ite_vs {c : Prop} [Decidable c] {a b : V.Term × Bool} {P : V.Term -> Prop} (ha : P a.1) (hb : P b.1) : P (if c then a else b).1 := by
  by_cases q : c
  . rw [if_pos q]; exact ha
  . rw [if_neg q]; exact hb
theorem dU {t : V.Term} {v : ByteArray × Int} (ho : t.op ≠ 22) : v ∈ varsT (u5 t).1 -> v ∈ varsT t := by
  refine (?_ : (fun x => v ∈ varsT x -> v ∈ varsT t) (u5 t).1)
  unfold u5 oE vF wF tF uF x5
  repeat' (refine ite_vs (P := fun x => v ∈ varsT x -> v ∈ varsT t) ?_ ?_)
  all_goals (intro h; dsimp only at h)
  all_goals first | exact h | exact uB h | exact wG h | exact wV h | exact uB (uB h) | exact (oO h).elim | (have q := qbr (by decide) h; first | exact uB q | exact wG q | exact uB (uB q) | exact uB (wG q) | exact wG (uB q)) | (have q := qbr ho h; first | exact uB q | exact uB (uB q)) | (rcases o3_vars (by decide) h with q | q | q <;> first | exact uB (uB q) | exact wV q | exact wG q) | (rcases o2_vars ho h with q | q <;> first | exact wG q | exact (oO q).elim | exact uB q | exact wG (wG q)) | skip
theorem qcb {v : ByteArray × Int} : ∀ (f : Nat) (t : V.Term), okT t = true -> v ∈ varsT (bA f t) -> v ∈ varsT t
  | 0, t, _, h => h
  | f + 1, t, hk, h => by
    rw [bA] at h
    by_cases c1 : t.kids.length = 0
    . rw [if_pos c1] at h; exact h
    rw [if_neg c1] at h
    have ho : 1 <= t.op /\ t.op <= 21 := rH hk (fun e => c1 (by rw [e]; rfl))
    by_cases c2 : y4 t.kids = true
    . rw [if_pos c2] at h; exact (oO h).elim
    rw [if_neg c2] at h
    by_cases c3 : (u5 t).2 = true
    . rw [if_pos c3] at h
      have h1 := m9 (x := (u5 t).1) hk ho (Prod.ext rfl c3)
      exact dU omG (qcb f _ h1.1 h)
    . rw [if_neg c3] at h
      exact dU omG h
theorem qb8 {t : V.Term} {v : ByteArray × Int} (hk : okT t = true) (h : v ∈ varsT (p3 t)) : v ∈ varsT t := qcb _ t hk h
theorem qew {σ : ByteArray -> Int} : ∀ (n : Nat) (t : V.Term), sizeT t < n -> okT t = true -> v7 σ t -> wordP t.w (evT σ t) = true
  | 0, t, h, _, _ => absurd h (Nat.not_lt_zero _)
  | n + 1, t, h, hk, hg => by
    rw [wB]
    by_cases c1 : t.op = 0
    . rw [if_pos c1]; exact (x9 hk).const c1
    rw [if_neg c1]
    by_cases c2 : t.op = 22
    . rw [if_pos c2]
      exact hg (t.name, t.w) (by rw [zS, if_pos c2]; exact List.mem_cons_self ..)
    rw [if_neg c2]
    have ho := gQ hk
    refine qgj hk omG (fun i hi => ?_)
    rw [fO hi]
    have h1 := nM (ks := t.kids) (i := i) hi
    have h2 := uI t
    exact qew n (kAt t.kids i) omG (uK hk hi) (fun v hv => hg v (nN hv))
theorem pJ {σ : ByteArray -> Int} {t : V.Term} (hk : okT t = true) (hg : v7 σ t) : wordP t.w (evT σ t) = true := qew _ t (Nat.lt_succ_self _) hk hg
theorem qbv {σ : ByteArray -> Int} {c : V.Term} (hk : okT c = true) (hw : c.w = 1) (hg : v7 σ c) : evT σ (p3 (oT 1 1 0 [c])) = 1 - evT σ c := by
  have hc := pJ hk hg
  rw [hw] at hc
  have hap : ∀ x : Int, wordP 1 x = true -> m6 (oT 1 1 0 [c]) [x] = 1 - x := by
    intro x hx
    unfold m6
    rw [if_pos (.inl rfl)]
    show p7 1 c.w x = 1 - x
    rw [hw]
    unfold p7
    rw [if_pos hx, if_pos rfl]; rfl
  have hev : evT σ (oT 1 1 0 [c]) = 1 - evT σ c := by
    rw [wB, if_neg (show ¬ (1 : Int) = 0 by decide), if_neg (show ¬ (1 : Int) = 22 by decide)]
    show m6 (oT 1 1 0 [c]) (w5 σ [c]) = _
    rw [w5, w5]
    exact hap _ hc
  show evT σ (bA (g5 (oT 1 1 0 [c]) + 1) (oT 1 1 0 [c])) = _
  rw [bA, if_neg (show ¬ [c].length = 0 from Nat.succ_ne_zero 0)]
  by_cases c1 : y4 [c] = true
  . rw [if_pos c1]
    have c0 : c.op = 0 := by simpa [y4] using c1
    rw [wB, if_pos rfl]
    show m6 (oT 1 1 0 [c]) (nums [c]) = _
    have e : evT σ c = c.n := by rw [wB, if_pos c0]
    rw [e] at hc ⊢
    exact hap _ hc
  rw [if_neg c1]
  have hr : u5 (oT 1 1 0 [c]) = if c.op = 1 then (k0 c, false) else (oT 1 1 0 [c], false) := by
    unfold u5 oE
    rw [if_pos (.inl rfl)]; rfl
  rw [hr]
  by_cases c2 : c.op = 1
  . rw [if_pos c2, if_neg (show ¬ (false = true) from Bool.false_ne_true)]
    show evT σ (k0 c) = _
    have h0 := ok0 hk omG
    have hf := cF hk (.inl c2)
    have hg0 : v7 σ (k0 c) := fun v hv => hg v (uB hv)
    have hw0 := pJ h0 hg0
    rw [hf, hw] at hw0
    have e : evT σ c = 1 - evT σ (k0 c) := by
      rw [wB, if_neg omG, if_neg omG]
      unfold m6
      rw [if_pos (.inl c2)]
      have hl : 0 < c.kids.length := by have := lD hk (.inl c2); omega
      rw [fO hl, hf, hw, c2]
      show p7 1 1 (evT σ (k0 c)) = _
      unfold p7
      rw [if_pos hw0, if_pos rfl]; rfl
    omega
  . rw [if_neg c2, if_neg (show ¬ (false = true) from Bool.false_ne_true)]; exact hev
end Vg
