/- Texts of terms, and the program's reader of them (as a plain function on what is left to read): it reads the text of a term back. No condition. -/
import Derived.Test.YtcdepophgnlphaaDoorParP
import Derived.Test.YtcdepophgnlphaaDoorRedQ
namespace Vg
open Go Go.Proofs
abbrev Bs := List UInt8
def r0 (n : Int) : Bs := (u2 n).data.toList
def opNs : List Bs := [[110, 111, 116], [110, 101, 103], [97, 100, 100], [115, 117, 98], [109, 117, 108], [100, 105, 118], [114, 101, 109], [97, 110, 100], [111, 114], [120, 111, 114], [115, 104, 108], [115, 104, 114], [115, 97, 114], [101, 113], [108, 101, 115, 115], [98, 101, 108, 111, 119], [105, 102], [106, 111, 105, 110], [99, 117, 116], [103, 114, 111, 119], [115, 116, 114, 101, 116, 99, 104]]
def n8 (op : Int) : Bs := opNs.getD (op - 1).toNat []
mutual
def fmtL : V.Term → Bs
  | ⟨op, w, n, nm, ks⟩ =>
    if op = 0 then r0 w ++ 58 :: r0 n
    else if op = 22 then nm.data.toList ++ 58 :: r0 w
    else 40 :: (n8 op ++ ((if op = 19 then 32 :: r0 n else []) ++ ((if 19 ≤ op ∧ op ≤ 21 then 32 :: r0 w else []) ++ (z1 ks ++ [41]))))
def z1 : List V.Term → Bs
  | [] => []
  | t :: ts => 32 :: (fmtL t ++ z1 ts)
end
/-! ### the reader -/
def n6 (c : UInt8) : Bool := c == 32 || c == 40 || c == 41
def s0 : Bs → Bs × Bs
  | [] => ([], [])
  | c :: l => if n6 c = true then ([], c :: l) else (c :: (s0 l).1, (s0 l).2)
def takeR (c : UInt8) : Bs → Bool × Bs
  | [] => (false, [])
  | x :: l => if x = c then (true, l) else (false, x :: l)
noncomputable def a6 (l : Bs) : Int × Bool := s4 ⟨l.toArray⟩
noncomputable def w5 (l : Bs) : (Int × Bool) × Bs := match takeR 32 l with
  | (true, l') => (a6 (s0 l').1, (s0 l').2)
  | (false, l') => ((0, false), l')
def f8 : Bs → Option (Bs × Bs)
  | [] => none
  | c :: l => if c = 58 then some ([], l) else match f8 l with
    | some (a, b) => some (c :: a, b)
    | none => none
def r4 : V.Term := ⟨0, 0, 0, ByteArray.empty, []⟩
noncomputable def y6 (tk : Bs) : V.Term × Bool := match f8 tk with
  | none => (r4, false)
  | some (a, b) => if (a6 b).2 = false then (r4, false) else if isNameP ⟨a.toArray⟩ = true then (⟨22, (a6 b).1, 0, ⟨a.toArray⟩, []⟩, true) else (⟨0, (a6 a).1, (a6 b).1, ByteArray.empty, []⟩, (a6 a).2)
def bD (tk : Bs) : Nat → Int
  | 0 => 0
  | k + 1 => if n8 (22 - (k + 1 : Nat)) = tk then 22 - (k + 1 : Nat) else bD tk k
def u1 (tk : Bs) : Int := bD tk 21
def pW (op w : Int) (ks : List V.Term) : Int :=
  if op ≤ 13 then (kAt ks 0).w else if op ≤ 16 then 1 else if op = 17 then (kAt ks 1).w else if op = 18 then IntKind.i64.wrap ((kAt ks 0).w + (kAt ks 1).w) else w
abbrev RdT := (V.Term × Bool) × Nat × Bs
noncomputable def j7 (rec : Nat → Bs → RdT) : Nat → Nat → Bs → List V.Term → Option (List V.Term) × Nat × Bs
  | 0, c, l, acc => (some acc, c, l)
  | g + 1, c, l, acc => match takeR 32 l with
    | (false, l') => (some acc, c, l')
    | (true, l') => match rec c l' with
      | ((t, true), c', r) => j7 rec g c' r (acc ++ [t])
      | ((_, false), c', r) => (none, c', r)
noncomputable def v8 (rec : Nat → Bs → RdT) (c : Nat) (l : Bs) : RdT :=
  if u1 (s0 l).1 = 0 then ((r4, false), c, (s0 l).2) else
  match (if u1 (s0 l).1 = 19 then w5 (s0 l).2 else ((0, true), (s0 l).2)) with
  | ((_, false), l3) => ((r4, false), c, l3)
  | ((n, true), l3) => match (if 19 ≤ u1 (s0 l).1 ∧ u1 (s0 l).1 ≤ 21 then w5 l3 else ((0, true), l3)) with
    | ((_, false), l4) => ((r4, false), c, l4)
    | ((w, true), l4) => match j7 rec l4.length c l4 [] with
      | (none, c', l5) => ((r4, false), c', l5)
      | (some ks, c', l5) => match takeR 41 l5 with
        | (false, l6) => ((r4, false), c', l6)
        | (true, l6) => if (ks.length : Int) = j6 (u1 (s0 l).1) then ((⟨u1 (s0 l).1, pW (u1 (s0 l).1) w ks, n, ByteArray.empty, ks⟩, true), c', l6) else ((r4, false), c', l6)
noncomputable def o0 : Nat → Nat → Bs → RdT
  | 0, c, l => ((r4, false), c + 1, l)
  | f + 1, c, l => if c + 1 > 240 then ((r4, false), c + 1, l) else match takeR 40 l with
    | (false, l1) => (y6 (s0 l1).1, c + 1, (s0 l1).2)
    | (true, l1) => v8 (o0 f) (c + 1) l1
/-! ### texts are read back -/
def k8 (l : Bs) : Prop := l = [] ∨ ∃ c r, l = c :: r ∧ n6 c = true
theorem tF : ∀ {a l : Bs}, (∀ c ∈ a, n6 c = false) → k8 l → s0 (a ++ l) = (a, l)
  | [], l, _, hl => by
    rcases hl with rfl | ⟨c, r, rfl, hc⟩
    · rfl
    · rw [List.nil_append, s0, if_pos hc]
  | c :: a, l, ha, hl => by
    have h1 := ha c (List.mem_cons_self ..)
    rw [List.cons_append, s0, if_neg (by rw [h1]; exact Bool.false_ne_true), tF (fun x hx => ha x (List.mem_cons_of_mem _ hx)) hl]
theorem yM {n : Int} {c : UInt8} (h : c ∈ r0 n) : c = 45 ∨ (48 ≤ c.toNat ∧ c.toNat ≤ 57) := by
  unfold r0 u2 Lib.itoa at h
  split at h
  · rcases List.mem_cons.1 (show c ∈ 45 :: Lib.decDigits n.natAbs from h) with e | e
    · exact .inl e
    · exact .inr (lC _ _ e)
  · exact .inr (lC _ _ h)
theorem fD {c : UInt8} (h : c = 45 ∨ (48 ≤ c.toNat ∧ c.toNat ≤ 57) ∨ (97 ≤ c.toNat ∧ c.toNat ≤ 122) ∨ c = 58) : n6 c = false := by
  have e : ∀ x : UInt8, (x = 45 ∨ (48 ≤ x.toNat ∧ x.toNat ≤ 57) ∨ (97 ≤ x.toNat ∧ x.toNat ≤ 122) ∨ x = 58) → x ≠ 32 ∧ x ≠ 40 ∧ x ≠ 41 := by
    intro x hx
    refine ⟨?_, ?_, ?_⟩ <;> rintro rfl <;> revert hx <;> decide
  obtain ⟨h1, h2, h3⟩ := e c h
  unfold n6
  simp [h1, h2, h3]
theorem qB (n : Int) : ∀ c ∈ r0 n, n6 c = false := fun c h => by
  rcases yM h with e | e
  · exact fD (.inl e)
  · exact fD (.inr (.inl e))
theorem bC {n : Int} (h0 : -9223372036854775808 ≤ n) (h1 : n ≤ 9223372036854775807) : a6 (r0 n) = (n, true) := by
  unfold a6 r0
  rw [show (⟨(u2 n).data.toList.toArray⟩ : ByteArray) = u2 n from by rw [Array.toArray_toList]]
  exact bJ h0 h1
theorem lI (c : UInt8) (l : Bs) : takeR c (c :: l) = (true, l) := by rw [takeR, if_pos rfl]
theorem zP {c x : UInt8} {l : Bs} (h : x ≠ c) : takeR c (x :: l) = (false, x :: l) := by rw [takeR, if_neg h]
theorem aQ {a l : Bs} (h : ∀ x ∈ a, n6 x = false) (ha : a ≠ []) : takeR 40 (a ++ l) = (false, a ++ l) := by
  cases a with
  | nil => exact absurd rfl ha
  | cons c r =>
    have hc := h c (List.mem_cons_self ..)
    exact zP (fun e => by rw [e] at hc; exact Bool.noConfusion (show true = false from hc))
theorem nm_R {n : Int} {l : Bs} (h0 : -9223372036854775808 ≤ n) (h1 : n ≤ 9223372036854775807) (hl : k8 l) : w5 (32 :: (r0 n ++ l)) = ((n, true), l) := by
  unfold w5
  rw [lI]
  show (a6 (s0 (r0 n ++ l)).1, (s0 (r0 n ++ l)).2) = _
  rw [tF (qB n) hl]
  show (a6 (r0 n), l) = _
  rw [bC h0 h1]
theorem opW_ok : ∀ k : Nat, k < 21 → u1 (opNs.getD k []) = (k : Int) + 1 ∧ (∀ c ∈ opNs.getD k [], 97 ≤ c.toNat ∧ c.toNat ≤ 122) := by decide
theorem jG {op : Int} (h1 : 1 ≤ op) (h2 : op ≤ 21) : u1 (n8 op) = op ∧ ∀ c ∈ n8 op, n6 c = false := by
  have h := opW_ok (op - 1).toNat omG
  unfold n8
  refine ⟨by rw [h.1]; omega, fun c hc => fD (.inr (.inr (.inl (h.2 c hc))))⟩
theorem eF : ∀ {a l : Bs}, 58 ∉ a → f8 (a ++ 58 :: l) = some (a, l)
  | [], l, _ => by rw [List.nil_append, f8, if_pos rfl]
  | c :: a, l, h => by
    have h1 : c ≠ 58 := fun e => h (by rw [e]; exact List.mem_cons_self ..)
    rw [List.cons_append, f8, if_neg h1, eF (fun e => h (List.mem_cons_of_mem _ e))]
theorem gU (n : Int) : 58 ∉ r0 n := fun h => by
  rcases yM h with e | e
  · revert e; decide
  · revert e; decide
theorem itL_hd {n : Int} (h : 0 ≤ n) : isNameP ⟨(r0 n).toArray⟩ = false := by
  have hm : ∀ c ∈ r0 n, 48 ≤ c.toNat ∧ c.toNat ≤ 57 := fun c hc => by
    unfold r0 u2 Lib.itoa at hc
    rw [if_neg omG] at hc
    exact lC _ _ hc
  cases e : r0 n with
  | nil => rfl
  | cons c r =>
    have hc := hm c (by rw [e]; exact List.mem_cons_self ..)
    have h0 : t7 ⟨(c :: r).toArray⟩ 1 = false := by
      have hb : b7 ⟨(c :: r).toArray⟩ 0 = (c.toNat : Int) := rfl
      simp only [t7, fF, hb, Bool.true_and]
      have h1 : inP (c.toNat : Int) 97 122 = false := by simp [inP]; omega
      rw [h1]; simp
    cases q : isNameP ⟨(c :: r).toArray⟩ with
    | false => rfl
    | true =>
      unfold isNameP at q
      rw [Bool.and_eq_true] at q
      have := rG (s := ⟨(c :: r).toArray⟩) (k := 1) (m := (⟨(c :: r).toArray⟩ : ByteArray).size) (by show 1 ≤ (c :: r).toArray.size; simp) q.2
      rw [h0] at this; cases this
theorem mJ {s : ByteArray} (h : isNameP s = true) : ∀ c ∈ s.data.toList, (48 ≤ c.toNat ∧ c.toNat ≤ 57) ∨ (97 ≤ c.toNat ∧ c.toNat ≤ 122) := fun c hc => by
  obtain ⟨i, hi, rfl⟩ := List.getElem_of_mem hc
  unfold isNameP at h
  rw [Bool.and_eq_true] at h
  have hs : s.data.toList.length = s.size := rfl
  have q := rG (k := i + 1) (m := s.size) omG h.2
  simp only [t7, Bool.and_eq_true] at q
  have e : b7 s i = (s.data.toList[i].toNat : Int) := by unfold b7; rw [List.getD_eq_getElem?_getD, List.getElem?_eq_getElem hi]; rfl
  have q2 := q.2
  rw [fF, e] at q2
  simp only [inP, Bool.or_eq_true, Bool.and_eq_true, decide_eq_true_eq] at q2
  omega
theorem leaf_c {w n : Int} (hw : 0 ≤ w ∧ w ≤ 1000) (hn : 0 ≤ n ∧ n ≤ 1000000) : y6 (r0 w ++ 58 :: r0 n) = (⟨0, w, n, ByteArray.empty, []⟩, true) := by
  unfold y6
  rw [eF (gU w)]
  show (if (a6 (r0 n)).2 = false then _ else _) = _
  rw [bC omG omG, bC omG omG, itL_hd hw.1]
  rfl
theorem leaf_v {w : Int} {nm : ByteArray} (hw : 0 ≤ w ∧ w ≤ 1000) (hn : isNameP nm = true) : y6 (nm.data.toList ++ 58 :: r0 w) = (⟨22, w, 0, nm, []⟩, true) := by
  have h58 : 58 ∉ nm.data.toList := fun h => by
    have := mJ hn 58 h
    revert this; decide
  unfold y6
  rw [eF h58]
  show (if (a6 (r0 w)).2 = false then _ else if isNameP ⟨nm.data.toList.toArray⟩ = true then _ else _) = _
  rw [bC omG omG, Array.toArray_toList]
  show (if isNameP nm = true then _ else _) = _
  rw [if_pos hn]
/-! ### the whole -/
theorem nV (l : Bs) : k8 (41 :: l) := .inr ⟨41, l, rfl, rfl⟩
theorem yE (l : Bs) : k8 (32 :: l) := .inr ⟨32, l, rfl, rfl⟩
theorem yJ {ks : List V.Term} {l : Bs} : k8 (z1 ks ++ 41 :: l) := by
  cases ks with
  | nil => exact nV l
  | cons t ts => rw [z1]; exact yE _
theorem cC {t : V.Term} (h : okT t = true) : (1 ≤ t.w ∧ t.w ≤ 16) ∧ (0 ≤ t.n ∧ t.n ≤ 65535) := by
  have hw := w7.1 (q9 h).width
  refine ⟨hw, ?_⟩
  by_cases h0 : t.op = 0
  · have q := word_lo ((q9 h).const h0)
    have e : t.w.toNat ≤ 16 := by omega
    have e2 : (2 : Nat) ^ t.w.toNat ≤ 2 ^ 16 := Nat.pow_le_pow_right (by decide) e
    have e3 : ((2 : Int) ^ t.w.toNat) = ((2 ^ t.w.toNat : Nat) : Int) := by norm_cast
    have q2 := q.2.2
    rw [e3] at q2
    omega
  · by_cases h19 : t.op = 19
    · have f := (q9 h).fit
      have hl := (q9 h).len
      rw [h19] at hl
      have hk : 0 < t.kids.length := by have e : j6 19 = 1 := rfl; omega
      have kw := w7.1 (q9 (mA (lB h) hk)).width
      rw [h19] at f
      have f' : (decide (0 ≤ t.n) && decide (t.n ≤ (kAt t.kids 0).w - t.w)) = true := f
      rw [Bool.and_eq_true, decide_eq_true_eq, decide_eq_true_eq] at f'
      omega
    · have := (q9 h).num h0 h19
      omega
theorem mG {t : V.Term} (h : okT t = true) (h22 : t.op = 22) : isNameP t.name = true := by
  rw [dE, h22, Bool.and_eq_true, Bool.and_eq_true] at h
  exact h.1.2
theorem pW_ok {op w n : Int} {nm : ByteArray} {ks : List V.Term} (h : NodeOk op w n nm ks) (h1 : 1 ≤ op) (h2 : op ≤ 21) : pW op (if 19 ≤ op ∧ op ≤ 21 then w else 0) ks = w := by
  have f := h.fit
  unfold hC at f
  unfold pW
  by_cases c1 : op ≤ 13
  · rw [if_pos c1]
    rw [if_neg omG] at f
    by_cases c2 : op = 1 ∨ op = 2
    · rw [if_pos c2, decide_eq_true_eq] at f; exact f
    · rw [if_neg c2, if_pos omG, Bool.and_eq_true, decide_eq_true_eq] at f; exact f.1
  · rw [if_neg c1]
    rw [if_neg omG, if_neg omG, if_neg omG] at f
    by_cases c2 : op ≤ 16
    · rw [if_pos c2]
      rw [if_pos omG, Bool.and_eq_true, decide_eq_true_eq, decide_eq_true_eq] at f
      exact f.2.symm
    · rw [if_neg c2]
      rw [if_neg omG] at f
      by_cases c3 : op = 17
      · rw [if_pos c3]
        rw [if_pos c3, Bool.and_eq_true, Bool.and_eq_true, decide_eq_true_eq, decide_eq_true_eq, decide_eq_true_eq] at f
        exact f.1.2
      · rw [if_neg c3]
        rw [if_neg c3] at f
        by_cases c4 : op = 18
        · rw [if_pos c4]
          rw [if_pos c4, decide_eq_true_eq] at f
          have hw := w7.1 h.width
          rw [f, g4 omG omG]
        · rw [if_neg c4, if_pos omG]
theorem yT {rec : Nat → Bs → RdT} : ∀ (ks : List V.Term) (g c : Nat) (acc : List V.Term) (l : Bs), ks.length ≤ g →
    (∀ t, t ∈ ks → ∀ c l, k8 l → c + sizeT t ≤ 240 → rec c (fmtL t ++ l) = ((t, true), c + sizeT t, l)) → c + d3 ks ≤ 240 →
    j7 rec g c (z1 ks ++ 41 :: l) acc = (some (acc ++ ks), c + d3 ks, 41 :: l)
  | [], g, c, acc, l, _, _, _ => by
    cases g with
    | zero => rw [z1, j7, List.append_nil, d3]; rfl
    | succ g => rw [z1, List.nil_append, j7, zP (by decide), List.append_nil, d3]; rfl
  | t :: ts, 0, c, acc, l, hg, _, _ => by simp at hg
  | t :: ts, g + 1, c, acc, l, hg, hr, hc => by
    rw [d3] at hc
    have h0 := hr t (List.mem_cons_self ..) c (z1 ts ++ 41 :: l) yJ omG
    have ih := yT (rec := rec) ts g (c + sizeT t) (acc ++ [t]) l (by simpa using hg) (fun x hx => hr x (List.mem_cons_of_mem _ hx)) omG
    rw [z1, List.cons_append, List.append_assoc, j7, lI]
    show (match rec c (fmtL t ++ (z1 ts ++ 41 :: l)) with | ((t, true), c', r) => j7 rec g c' r (acc ++ [t]) | ((_, false), c', r) => (none, c', r)) = _
    rw [h0]
    show j7 rec g (c + sizeT t) (z1 ts ++ 41 :: l) (acc ++ [t]) = _
    rw [ih, d3, List.append_assoc, Nat.add_assoc]; rfl
theorem rV : ∀ (ks : List V.Term) (l : Bs), ks.length ≤ (z1 ks ++ l).length
  | [], l => Nat.zero_le _
  | t :: ts, l => by
    have := rV ts l
    rw [z1]
    simp only [List.cons_append, List.length_cons, List.length_append] at *
    omega
theorem node_R {rec : Nat → Bs → RdT} {op w n : Int} {nm : ByteArray} {ks : List V.Term} {c : Nat} {l : Bs} (h : okT ⟨op, w, n, nm, ks⟩ = true) (h1 : 1 ≤ op) (h2 : op ≤ 21)
    (hr : ∀ t, t ∈ ks → ∀ c l, k8 l → c + sizeT t ≤ 240 → rec c (fmtL t ++ l) = ((t, true), c + sizeT t, l)) (hc : c + d3 ks ≤ 240) :
    v8 rec c (n8 op ++ ((if op = 19 then 32 :: r0 n else []) ++ ((if 19 ≤ op ∧ op ≤ 21 then 32 :: r0 w else []) ++ (z1 ks ++ 41 :: l)))) = ((⟨op, w, n, nm, ks⟩, true), c + d3 ks, l) := by
  have hn : NodeOk op w n nm ks := q9 h
  have hi : (1 ≤ w ∧ w ≤ 16) ∧ (0 ≤ n ∧ n ≤ 65535) := cC h
  obtain ⟨o1, o2⟩ := jG h1 h2
  have f1 : k8 ((if 19 ≤ op ∧ op ≤ 21 then 32 :: r0 w else []) ++ (z1 ks ++ 41 :: l)) := by
    split
    · exact yE _
    · exact yJ
  have f0 : k8 ((if op = 19 then 32 :: r0 n else []) ++ ((if 19 ≤ op ∧ op ≤ 21 then 32 :: r0 w else []) ++ (z1 ks ++ 41 :: l))) := by
    split
    · exact yE _
    · exact f1
  have e1 : (if op = 19 then w5 ((if op = 19 then 32 :: r0 n else []) ++ ((if 19 ≤ op ∧ op ≤ 21 then 32 :: r0 w else []) ++ (z1 ks ++ 41 :: l))) else ((0, true), (if op = 19 then 32 :: r0 n else []) ++ ((if 19 ≤ op ∧ op ≤ 21 then 32 :: r0 w else []) ++ (z1 ks ++ 41 :: l)))) = ((n, true), (if 19 ≤ op ∧ op ≤ 21 then 32 :: r0 w else []) ++ (z1 ks ++ 41 :: l)) := by
    by_cases q : op = 19
    · rw [if_pos q, if_pos q, List.cons_append]
      exact nm_R (by have := hi.2; omega) (by have := hi.2; omega) f1
    · rw [if_neg q, if_neg q, hn.num omG q]; rfl
  have e2 : (if 19 ≤ op ∧ op ≤ 21 then w5 ((if 19 ≤ op ∧ op ≤ 21 then 32 :: r0 w else []) ++ (z1 ks ++ 41 :: l)) else ((0, true), (if 19 ≤ op ∧ op ≤ 21 then 32 :: r0 w else []) ++ (z1 ks ++ 41 :: l))) = (((if 19 ≤ op ∧ op ≤ 21 then w else 0), true), z1 ks ++ 41 :: l) := by
    by_cases q : 19 ≤ op ∧ op ≤ 21
    · rw [if_pos q, if_pos q, if_pos q, List.cons_append]
      exact nm_R (by have := hi.1; omega) (by have := hi.1; omega) yJ
    · rw [if_neg q, if_neg q, if_neg q]; rfl
  have e3 := yT (rec := rec) ks (z1 ks ++ 41 :: l).length c [] l (rV ks _) hr hc
  unfold v8
  rw [tF o2 f0]
  dsimp only
  rw [o1, if_neg omG, e1]
  dsimp only
  rw [e2]
  dsimp only
  rw [e3]
  dsimp only
  rw [lI, List.nil_append]
  dsimp only
  rw [if_pos hn.len, pW_ok hn h1 h2, hn.nam omG]
theorem xP : ∀ (f : Nat) (t : V.Term) (c : Nat) (l : Bs), sizeT t ≤ f → okT t = true → k8 l → c + sizeT t ≤ 240 → o0 f c (fmtL t ++ l) = ((t, true), c + sizeT t, l)
  | 0, t, c, l, hs, _, _, _ => by have := tI t; omega
  | f + 1, ⟨op, w, n, nm, ks⟩, c, l, hs, h, hl, hc => by
    have hn : NodeOk op w n nm ks := q9 h
    have hi : (1 ≤ w ∧ w ≤ 16) ∧ (0 ≤ n ∧ n ≤ 65535) := cC h
    have ho : 0 ≤ op ∧ op ≤ 22 := cD h
    have hp := tI ⟨op, w, n, nm, ks⟩
    rw [o0, if_neg omG]
    by_cases c0 : op = 0
    · subst c0
      have hk : ks = [] := List.eq_nil_of_length_eq_zero (by have := hn.len; have e : j6 0 = 0 := rfl; omega)
      have hnm : nm = ByteArray.empty := hn.nam (by decide)
      subst hk hnm
      have hnd : ∀ x ∈ r0 w ++ 58 :: r0 n, n6 x = false := fun x hx => by
        rcases List.mem_append.1 hx with e | e
        · exact qB _ x e
        · rcases List.mem_cons.1 e with e | e
          · rw [e]; rfl
          · exact qB _ x e
      rw [fmtL, if_pos rfl]
      have hh : takeR 40 ((r0 w ++ 58 :: r0 n) ++ l) = (false, (r0 w ++ 58 :: r0 n) ++ l) := aQ hnd (by simp)
      rw [hh]
      dsimp only
      rw [tF hnd hl, leaf_c omG omG]
      rfl
    · by_cases c22 : op = 22
      · subst c22
        have hk : ks = [] := List.eq_nil_of_length_eq_zero (by have := hn.len; have e : j6 22 = 0 := rfl; omega)
        have hn0 : n = 0 := hn.num (by decide) (by decide)
        subst hk hn0
        have hname : isNameP nm = true := mG h rfl
        have hnd : ∀ x ∈ nm.data.toList ++ 58 :: r0 w, n6 x = false := fun x hx => by
          rcases List.mem_append.1 hx with e | e
          · rcases mJ hname x e with q | q
            · exact fD (.inr (.inl q))
            · exact fD (.inr (.inr (.inl q)))
          · rcases List.mem_cons.1 e with e | e
            · rw [e]; rfl
            · exact qB _ x e
        rw [fmtL, if_neg (by decide), if_pos rfl]
        have hh : takeR 40 ((nm.data.toList ++ 58 :: r0 w) ++ l) = (false, (nm.data.toList ++ 58 :: r0 w) ++ l) := aQ hnd (by simp)
        rw [hh]
        dsimp only
        rw [tF hnd hl, leaf_v omG hname]
        rfl
      · rw [sizeT] at hs hc
        rw [fmtL, if_neg c0, if_neg c22, List.cons_append, lI]
        dsimp only
        have q := node_R (rec := o0 f) (c := c + 1) (l := l) h omG omG (fun t ht c' l' hl' hc' => by
          have hst : sizeT t ≤ d3 ks := by
            obtain ⟨i, hi', rfl⟩ := List.getElem_of_mem ht
            have q := xD (ks := ks) hi'
            rwa [show kAt ks i = ks[i] from by unfold kAt; rw [List.getD_eq_getElem?_getD, List.getElem?_eq_getElem hi']; rfl] at q
          have hot : okT t = true := by
            obtain ⟨i, hi', rfl⟩ := List.getElem_of_mem ht
            have q := mA (lB h) hi'
            rwa [show kAt ks i = ks[i] from by unfold kAt; rw [List.getD_eq_getElem?_getD, List.getElem?_eq_getElem hi']; rfl] at q
          exact xP f t c' l' omG hot hl' hc') omG
        simp only [List.append_assoc, List.cons_append, List.nil_append]
        rw [q, sizeT, Nat.add_assoc]
end Vg
