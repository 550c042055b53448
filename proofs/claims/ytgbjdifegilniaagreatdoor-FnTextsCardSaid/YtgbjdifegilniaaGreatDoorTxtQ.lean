/- Texts of terms, and the program's reader of them (as a plain function on what is left to read): it reads the text of a term back. No condition. -/
import Derived.Test.YtgbjdifegilniaaGreatDoorParP
import Derived.Test.YtgbjdifegilniaaGreatDoorRedQ
namespace Vg
open Go Go.Proofs
abbrev Bs := List UInt8
def u4 (n : Int) : Bs := (s1 n).data.toList
def opNs : List Bs := [[110, 111, 116], [110, 101, 103], [97, 100, 100], [115, 117, 98], [109, 117, 108], [100, 105, 118], [114, 101, 109], [97, 110, 100], [111, 114], [120, 111, 114], [115, 104, 108], [115, 104, 114], [115, 97, 114], [101, 113], [108, 101, 115, 115], [98, 101, 108, 111, 119], [105, 102], [106, 111, 105, 110], [99, 117, 116], [103, 114, 111, 119], [115, 116, 114, 101, 116, 99, 104]]
def j8 (op : Int) : Bs := opNs.getD (op - 1).toNat []
mutual
def fmtL : V.Term → Bs
  | ⟨op, w, n, nm, ks⟩ =>
    if op = 0 then u4 w ++ 58 :: u4 n
    else if op = 22 then nm.data.toList ++ 58 :: u4 w
    else 40 :: (j8 op ++ ((if op = 19 then 32 :: u4 n else []) ++ ((if 19 ≤ op ∧ op ≤ 21 then 32 :: u4 w else []) ++ (j4 ks ++ [41]))))
def j4 : List V.Term → Bs
  | [] => []
  | t :: ts => 32 :: (fmtL t ++ j4 ts)
end
/-! ### the reader -/
def g9 (c : UInt8) : Bool := c == 32 || c == 40 || c == 41
def u0 : Bs → Bs × Bs
  | [] => ([], [])
  | c :: l => if g9 c = true then ([], c :: l) else (c :: (u0 l).1, (u0 l).2)
def takeR (c : UInt8) : Bs → Bool × Bs
  | [] => (false, [])
  | x :: l => if x = c then (true, l) else (false, x :: l)
noncomputable def s9 (l : Bs) : Int × Bool := x6 ⟨l.toArray⟩
noncomputable def y6 (l : Bs) : (Int × Bool) × Bs := match takeR 32 l with
  | (true, l') => (s9 (u0 l').1, (u0 l').2)
  | (false, l') => ((0, false), l')
def dB : Bs → Option (Bs × Bs)
  | [] => none
  | c :: l => if c = 58 then some ([], l) else match dB l with
    | some (a, b) => some (c :: a, b)
    | none => none
def w5 : V.Term := ⟨0, 0, 0, ByteArray.empty, []⟩
noncomputable def w7 (tk : Bs) : V.Term × Bool := match dB tk with
  | none => (w5, false)
  | some (a, b) => if (s9 b).2 = false then (w5, false) else if isNameP ⟨a.toArray⟩ = true then (⟨22, (s9 b).1, 0, ⟨a.toArray⟩, []⟩, true) else (⟨0, (s9 a).1, (s9 b).1, ByteArray.empty, []⟩, (s9 a).2)
def yE (tk : Bs) : Nat → Int
  | 0 => 0
  | k + 1 => if j8 (22 - (k + 1 : Nat)) = tk then 22 - (k + 1 : Nat) else yE tk k
def s4 (tk : Bs) : Int := yE tk 21
def pW (op w : Int) (ks : List V.Term) : Int :=
  if op ≤ 13 then (kAt ks 0).w else if op ≤ 16 then 1 else if op = 17 then (kAt ks 1).w else if op = 18 then IntKind.i64.wrap ((kAt ks 0).w + (kAt ks 1).w) else w
abbrev RdT := (V.Term × Bool) × Nat × Bs
noncomputable def d8 (rec : Nat → Bs → RdT) : Nat → Nat → Bs → List V.Term → Option (List V.Term) × Nat × Bs
  | 0, c, l, acc => (some acc, c, l)
  | g + 1, c, l, acc => match takeR 32 l with
    | (false, l') => (some acc, c, l')
    | (true, l') => match rec c l' with
      | ((t, true), c', r) => d8 rec g c' r (acc ++ [t])
      | ((_, false), c', r) => (none, c', r)
noncomputable def eA (rec : Nat → Bs → RdT) (c : Nat) (l : Bs) : RdT :=
  if s4 (u0 l).1 = 0 then ((w5, false), c, (u0 l).2) else
  match (if s4 (u0 l).1 = 19 then y6 (u0 l).2 else ((0, true), (u0 l).2)) with
  | ((_, false), l3) => ((w5, false), c, l3)
  | ((n, true), l3) => match (if 19 ≤ s4 (u0 l).1 ∧ s4 (u0 l).1 ≤ 21 then y6 l3 else ((0, true), l3)) with
    | ((_, false), l4) => ((w5, false), c, l4)
    | ((w, true), l4) => match d8 rec l4.length c l4 [] with
      | (none, c', l5) => ((w5, false), c', l5)
      | (some ks, c', l5) => match takeR 41 l5 with
        | (false, l6) => ((w5, false), c', l6)
        | (true, l6) => if (ks.length : Int) = e8 (s4 (u0 l).1) then ((⟨s4 (u0 l).1, pW (s4 (u0 l).1) w ks, n, ByteArray.empty, ks⟩, true), c', l6) else ((w5, false), c', l6)
noncomputable def m0 : Nat → Nat → Bs → RdT
  | 0, c, l => ((w5, false), c + 1, l)
  | f + 1, c, l => if c + 1 > 240 then ((w5, false), c + 1, l) else match takeR 40 l with
    | (false, l1) => (w7 (u0 l1).1, c + 1, (u0 l1).2)
    | (true, l1) => eA (m0 f) (c + 1) l1
/-! ### texts are read back -/
def Fol (l : Bs) : Prop := l = [] ∨ ∃ c r, l = c :: r ∧ g9 c = true
theorem dI : ∀ {a l : Bs}, (∀ c ∈ a, g9 c = false) → Fol l → u0 (a ++ l) = (a, l)
  | [], l, _, hl => by
    rcases hl with rfl | ⟨c, r, rfl, hc⟩
    · rfl
    · rw [List.nil_append, u0, if_pos hc]
  | c :: a, l, ha, hl => by
    have h1 := ha c (List.mem_cons_self ..)
    rw [List.cons_append, u0, if_neg (by rw [h1]; exact Bool.false_ne_true), dI (fun x hx => ha x (List.mem_cons_of_mem _ hx)) hl]
theorem lX {n : Int} {c : UInt8} (h : c ∈ u4 n) : c = 45 ∨ (48 ≤ c.toNat ∧ c.toNat ≤ 57) := by
  unfold u4 s1 Lib.itoa at h
  split at h
  · rcases List.mem_cons.1 (show c ∈ 45 :: Lib.decDigits n.natAbs from h) with e | e
    · exact .inl e
    · exact .inr (lF _ _ e)
  · exact .inr (lF _ _ h)
theorem zI {c : UInt8} (h : c = 45 ∨ (48 ≤ c.toNat ∧ c.toNat ≤ 57) ∨ (97 ≤ c.toNat ∧ c.toNat ≤ 122) ∨ c = 58) : g9 c = false := by
  have e : ∀ x : UInt8, (x = 45 ∨ (48 ≤ x.toNat ∧ x.toNat ≤ 57) ∨ (97 ≤ x.toNat ∧ x.toNat ≤ 122) ∨ x = 58) → x ≠ 32 ∧ x ≠ 40 ∧ x ≠ 41 := by
    intro x hx
    refine ⟨?_, ?_, ?_⟩ <;> rintro rfl <;> revert hx <;> decide
  obtain ⟨h1, h2, h3⟩ := e c h
  unfold g9
  simp [h1, h2, h3]
theorem qL (n : Int) : ∀ c ∈ u4 n, g9 c = false := fun c h => by
  rcases lX h with e | e
  · exact zI (.inl e)
  · exact zI (.inr (.inl e))
theorem zK {n : Int} (h0 : -9223372036854775808 ≤ n) (h1 : n ≤ 9223372036854775807) : s9 (u4 n) = (n, true) := by
  unfold s9 u4
  rw [show (⟨(s1 n).data.toList.toArray⟩ : ByteArray) = s1 n from by rw [Array.toArray_toList]]
  exact cG h0 h1
theorem nK (c : UInt8) (l : Bs) : takeR c (c :: l) = (true, l) := by rw [takeR, if_pos rfl]
theorem sS {c x : UInt8} {l : Bs} (h : x ≠ c) : takeR c (x :: l) = (false, x :: l) := by rw [takeR, if_neg h]
theorem tS {a l : Bs} (h : ∀ x ∈ a, g9 x = false) (ha : a ≠ []) : takeR 40 (a ++ l) = (false, a ++ l) := by
  cases a with
  | nil => exact absurd rfl ha
  | cons c r =>
    have hc := h c (List.mem_cons_self ..)
    exact sS (fun e => by rw [e] at hc; exact Bool.noConfusion (show true = false from hc))
theorem nm_R {n : Int} {l : Bs} (h0 : -9223372036854775808 ≤ n) (h1 : n ≤ 9223372036854775807) (hl : Fol l) : y6 (32 :: (u4 n ++ l)) = ((n, true), l) := by
  unfold y6
  rw [nK]
  show (s9 (u0 (u4 n ++ l)).1, (u0 (u4 n ++ l)).2) = _
  rw [dI (qL n) hl]
  show (s9 (u4 n), l) = _
  rw [zK h0 h1]
theorem opW_ok : ∀ k : Nat, k < 21 → s4 (opNs.getD k []) = (k : Int) + 1 ∧ (∀ c ∈ opNs.getD k [], 97 ≤ c.toNat ∧ c.toNat ≤ 122) := by decide
theorem op_R {op : Int} (h1 : 1 ≤ op) (h2 : op ≤ 21) : s4 (j8 op) = op ∧ ∀ c ∈ j8 op, g9 c = false := by
  have h := opW_ok (op - 1).toNat omG
  unfold j8
  refine ⟨by rw [h.1]; omega, fun c hc => zI (.inr (.inr (.inl (h.2 c hc))))⟩
theorem qQ : ∀ {a l : Bs}, 58 ∉ a → dB (a ++ 58 :: l) = some (a, l)
  | [], l, _ => by rw [List.nil_append, dB, if_pos rfl]
  | c :: a, l, h => by
    have h1 : c ≠ 58 := fun e => h (by rw [e]; exact List.mem_cons_self ..)
    rw [List.cons_append, dB, if_neg h1, qQ (fun e => h (List.mem_cons_of_mem _ e))]
theorem itL_58 (n : Int) : 58 ∉ u4 n := fun h => by
  rcases lX h with e | e
  · revert e; decide
  · revert e; decide
theorem itL_hd {n : Int} (h : 0 ≤ n) : isNameP ⟨(u4 n).toArray⟩ = false := by
  have hm : ∀ c ∈ u4 n, 48 ≤ c.toNat ∧ c.toNat ≤ 57 := fun c hc => by
    unfold u4 s1 Lib.itoa at hc
    rw [if_neg omG] at hc
    exact lF _ _ hc
  cases e : u4 n with
  | nil => rfl
  | cons c r =>
    have hc := hm c (by rw [e]; exact List.mem_cons_self ..)
    have h0 : b9 ⟨(c :: r).toArray⟩ 1 = false := by
      have hb : m8 ⟨(c :: r).toArray⟩ 0 = (c.toNat : Int) := rfl
      simp only [b9, xJ, hb, Bool.true_and]
      have h1 : inP (c.toNat : Int) 97 122 = false := by simp [inP]; omega
      rw [h1]; simp
    cases q : isNameP ⟨(c :: r).toArray⟩ with
    | false => rfl
    | true =>
      unfold isNameP at q
      rw [Bool.and_eq_true] at q
      have := kL (s := ⟨(c :: r).toArray⟩) (k := 1) (m := (⟨(c :: r).toArray⟩ : ByteArray).size) (by show 1 ≤ (c :: r).toArray.size; simp) q.2
      rw [h0] at this; cases this
theorem kW {s : ByteArray} (h : isNameP s = true) : ∀ c ∈ s.data.toList, (48 ≤ c.toNat ∧ c.toNat ≤ 57) ∨ (97 ≤ c.toNat ∧ c.toNat ≤ 122) := fun c hc => by
  obtain ⟨i, hi, rfl⟩ := List.getElem_of_mem hc
  unfold isNameP at h
  rw [Bool.and_eq_true] at h
  have hs : s.data.toList.length = s.size := rfl
  have q := kL (k := i + 1) (m := s.size) omG h.2
  simp only [b9, Bool.and_eq_true] at q
  have e : m8 s i = (s.data.toList[i].toNat : Int) := by unfold m8; rw [List.getD_eq_getElem?_getD, List.getElem?_eq_getElem hi]; rfl
  have q2 := q.2
  rw [xJ, e] at q2
  simp only [inP, Bool.or_eq_true, Bool.and_eq_true, decide_eq_true_eq] at q2
  omega
theorem leaf_c {w n : Int} (hw : 0 ≤ w ∧ w ≤ 1000) (hn : 0 ≤ n ∧ n ≤ 1000000) : w7 (u4 w ++ 58 :: u4 n) = (⟨0, w, n, ByteArray.empty, []⟩, true) := by
  unfold w7
  rw [qQ (itL_58 w)]
  show (if (s9 (u4 n)).2 = false then _ else _) = _
  rw [zK omG omG, zK omG omG, itL_hd hw.1]
  rfl
theorem leaf_v {w : Int} {nm : ByteArray} (hw : 0 ≤ w ∧ w ≤ 1000) (hn : isNameP nm = true) : w7 (nm.data.toList ++ 58 :: u4 w) = (⟨22, w, 0, nm, []⟩, true) := by
  have h58 : 58 ∉ nm.data.toList := fun h => by
    have := kW hn 58 h
    revert this; decide
  unfold w7
  rw [qQ h58]
  show (if (s9 (u4 w)).2 = false then _ else if isNameP ⟨nm.data.toList.toArray⟩ = true then _ else _) = _
  rw [zK omG omG, Array.toArray_toList]
  show (if isNameP nm = true then _ else _) = _
  rw [if_pos hn]
/-! ### the whole -/
theorem fol_41 (l : Bs) : Fol (41 :: l) := .inr ⟨41, l, rfl, rfl⟩
theorem cQ (l : Bs) : Fol (32 :: l) := .inr ⟨32, l, rfl, rfl⟩
theorem bQ {ks : List V.Term} {l : Bs} : Fol (j4 ks ++ 41 :: l) := by
  cases ks with
  | nil => exact fol_41 l
  | cons t ts => rw [j4]; exact cQ _
theorem tI {t : V.Term} (h : okT t = true) : (1 ≤ t.w ∧ t.w ≤ 16) ∧ (0 ≤ t.n ∧ t.n ≤ 65535) := by
  have hw := y9.1 (gC h).width
  refine ⟨hw, ?_⟩
  by_cases h0 : t.op = 0
  · have q := word_lo ((gC h).const h0)
    have e : t.w.toNat ≤ 16 := by omega
    have e2 : (2 : Nat) ^ t.w.toNat ≤ 2 ^ 16 := Nat.pow_le_pow_right (by decide) e
    have e3 : ((2 : Int) ^ t.w.toNat) = ((2 ^ t.w.toNat : Nat) : Int) := by norm_cast
    have q2 := q.2.2
    rw [e3] at q2
    omega
  · by_cases h19 : t.op = 19
    · have f := (gC h).fit
      have hl := (gC h).len
      rw [h19] at hl
      have hk : 0 < t.kids.length := by have e : e8 19 = 1 := rfl; omega
      have kw := y9.1 (gC (sD (sI h) hk)).width
      rw [h19] at f
      have f' : (decide (0 ≤ t.n) && decide (t.n ≤ (kAt t.kids 0).w - t.w)) = true := f
      rw [Bool.and_eq_true, decide_eq_true_eq, decide_eq_true_eq] at f'
      omega
    · have := (gC h).num h0 h19
      omega
theorem pO {t : V.Term} (h : okT t = true) (h22 : t.op = 22) : isNameP t.name = true := by
  rw [eG, h22, Bool.and_eq_true, Bool.and_eq_true] at h
  exact h.1.2
theorem pW_ok {op w n : Int} {nm : ByteArray} {ks : List V.Term} (h : NodeOk op w n nm ks) (h1 : 1 ≤ op) (h2 : op ≤ 21) : pW op (if 19 ≤ op ∧ op ≤ 21 then w else 0) ks = w := by
  have f := h.fit
  unfold aE at f
  unfold pW
  by_cases c1 : op ≤ 13
  · rw [if_pos c1]
    rw [if_neg omG] at f
    by_cases c2 : op = 1 ∨ op = 2
    · rw [if_pos c2, decide_eq_true_eq] at f; exact f
    · rw [if_neg c2, if_pos omG, Bool.and_eq_true, decide_eq_true_eq] at f; exact f.1
  · rw [if_neg c1]
    rw [if_neg omG, if_neg omG, if_neg omG] at f
    by_cases c2 : op ≤ 16
    · rw [if_pos c2]
      rw [if_pos omG, Bool.and_eq_true, decide_eq_true_eq, decide_eq_true_eq] at f
      exact f.2.symm
    · rw [if_neg c2]
      rw [if_neg omG] at f
      by_cases c3 : op = 17
      · rw [if_pos c3]
        rw [if_pos c3, Bool.and_eq_true, Bool.and_eq_true, decide_eq_true_eq, decide_eq_true_eq, decide_eq_true_eq] at f
        exact f.1.2
      · rw [if_neg c3]
        rw [if_neg c3] at f
        by_cases c4 : op = 18
        · rw [if_pos c4]
          rw [if_pos c4, decide_eq_true_eq] at f
          have hw := y9.1 h.width
          rw [f, z1 omG omG]
        · rw [if_neg c4, if_pos omG]
theorem cX {rec : Nat → Bs → RdT} : ∀ (ks : List V.Term) (g c : Nat) (acc : List V.Term) (l : Bs), ks.length ≤ g →
    (∀ t, t ∈ ks → ∀ c l, Fol l → c + sizeT t ≤ 240 → rec c (fmtL t ++ l) = ((t, true), c + sizeT t, l)) → c + d5 ks ≤ 240 →
    d8 rec g c (j4 ks ++ 41 :: l) acc = (some (acc ++ ks), c + d5 ks, 41 :: l)
  | [], g, c, acc, l, _, _, _ => by
    cases g with
    | zero => rw [j4, d8, List.append_nil, d5]; rfl
    | succ g => rw [j4, List.nil_append, d8, sS (by decide), List.append_nil, d5]; rfl
  | t :: ts, 0, c, acc, l, hg, _, _ => by simp at hg
  | t :: ts, g + 1, c, acc, l, hg, hr, hc => by
    rw [d5] at hc
    have h0 := hr t (List.mem_cons_self ..) c (j4 ts ++ 41 :: l) bQ omG
    have ih := cX (rec := rec) ts g (c + sizeT t) (acc ++ [t]) l (by simpa using hg) (fun x hx => hr x (List.mem_cons_of_mem _ hx)) omG
    rw [j4, List.cons_append, List.append_assoc, d8, nK]
    show (match rec c (fmtL t ++ (j4 ts ++ 41 :: l)) with | ((t, true), c', r) => d8 rec g c' r (acc ++ [t]) | ((_, false), c', r) => (none, c', r)) = _
    rw [h0]
    show d8 rec g (c + sizeT t) (j4 ts ++ 41 :: l) (acc ++ [t]) = _
    rw [ih, d5, List.append_assoc, Nat.add_assoc]; rfl
theorem gZ : ∀ (ks : List V.Term) (l : Bs), ks.length ≤ (j4 ks ++ l).length
  | [], l => Nat.zero_le _
  | t :: ts, l => by
    have := gZ ts l
    rw [j4]
    simp only [List.cons_append, List.length_cons, List.length_append] at *
    omega
theorem node_R {rec : Nat → Bs → RdT} {op w n : Int} {nm : ByteArray} {ks : List V.Term} {c : Nat} {l : Bs} (h : okT ⟨op, w, n, nm, ks⟩ = true) (h1 : 1 ≤ op) (h2 : op ≤ 21)
    (hr : ∀ t, t ∈ ks → ∀ c l, Fol l → c + sizeT t ≤ 240 → rec c (fmtL t ++ l) = ((t, true), c + sizeT t, l)) (hc : c + d5 ks ≤ 240) :
    eA rec c (j8 op ++ ((if op = 19 then 32 :: u4 n else []) ++ ((if 19 ≤ op ∧ op ≤ 21 then 32 :: u4 w else []) ++ (j4 ks ++ 41 :: l)))) = ((⟨op, w, n, nm, ks⟩, true), c + d5 ks, l) := by
  have hn : NodeOk op w n nm ks := gC h
  have hi : (1 ≤ w ∧ w ≤ 16) ∧ (0 ≤ n ∧ n ≤ 65535) := tI h
  obtain ⟨o1, o2⟩ := op_R h1 h2
  have f1 : Fol ((if 19 ≤ op ∧ op ≤ 21 then 32 :: u4 w else []) ++ (j4 ks ++ 41 :: l)) := by
    split
    · exact cQ _
    · exact bQ
  have f0 : Fol ((if op = 19 then 32 :: u4 n else []) ++ ((if 19 ≤ op ∧ op ≤ 21 then 32 :: u4 w else []) ++ (j4 ks ++ 41 :: l))) := by
    split
    · exact cQ _
    · exact f1
  have e1 : (if op = 19 then y6 ((if op = 19 then 32 :: u4 n else []) ++ ((if 19 ≤ op ∧ op ≤ 21 then 32 :: u4 w else []) ++ (j4 ks ++ 41 :: l))) else ((0, true), (if op = 19 then 32 :: u4 n else []) ++ ((if 19 ≤ op ∧ op ≤ 21 then 32 :: u4 w else []) ++ (j4 ks ++ 41 :: l)))) = ((n, true), (if 19 ≤ op ∧ op ≤ 21 then 32 :: u4 w else []) ++ (j4 ks ++ 41 :: l)) := by
    by_cases q : op = 19
    · rw [if_pos q, if_pos q, List.cons_append]
      exact nm_R (by have := hi.2; omega) (by have := hi.2; omega) f1
    · rw [if_neg q, if_neg q, hn.num omG q]; rfl
  have e2 : (if 19 ≤ op ∧ op ≤ 21 then y6 ((if 19 ≤ op ∧ op ≤ 21 then 32 :: u4 w else []) ++ (j4 ks ++ 41 :: l)) else ((0, true), (if 19 ≤ op ∧ op ≤ 21 then 32 :: u4 w else []) ++ (j4 ks ++ 41 :: l))) = (((if 19 ≤ op ∧ op ≤ 21 then w else 0), true), j4 ks ++ 41 :: l) := by
    by_cases q : 19 ≤ op ∧ op ≤ 21
    · rw [if_pos q, if_pos q, if_pos q, List.cons_append]
      exact nm_R (by have := hi.1; omega) (by have := hi.1; omega) bQ
    · rw [if_neg q, if_neg q, if_neg q]; rfl
  have e3 := cX (rec := rec) ks (j4 ks ++ 41 :: l).length c [] l (gZ ks _) hr hc
  unfold eA
  rw [dI o2 f0]
  dsimp only
  rw [o1, if_neg omG, e1]
  dsimp only
  rw [e2]
  dsimp only
  rw [e3]
  dsimp only
  rw [nK, List.nil_append]
  dsimp only
  rw [if_pos hn.len, pW_ok hn h1 h2, hn.nam omG]
theorem pS : ∀ (f : Nat) (t : V.Term) (c : Nat) (l : Bs), sizeT t ≤ f → okT t = true → Fol l → c + sizeT t ≤ 240 → m0 f c (fmtL t ++ l) = ((t, true), c + sizeT t, l)
  | 0, t, c, l, hs, _, _, _ => by have := vN t; omega
  | f + 1, ⟨op, w, n, nm, ks⟩, c, l, hs, h, hl, hc => by
    have hn : NodeOk op w n nm ks := gC h
    have hi : (1 ≤ w ∧ w ≤ 16) ∧ (0 ≤ n ∧ n ≤ 65535) := tI h
    have ho : 0 ≤ op ∧ op ≤ 22 := cL h
    have hp := vN ⟨op, w, n, nm, ks⟩
    rw [m0, if_neg omG]
    by_cases c0 : op = 0
    · subst c0
      have hk : ks = [] := List.eq_nil_of_length_eq_zero (by have := hn.len; have e : e8 0 = 0 := rfl; omega)
      have hnm : nm = ByteArray.empty := hn.nam (by decide)
      subst hk hnm
      have hnd : ∀ x ∈ u4 w ++ 58 :: u4 n, g9 x = false := fun x hx => by
        rcases List.mem_append.1 hx with e | e
        · exact qL _ x e
        · rcases List.mem_cons.1 e with e | e
          · rw [e]; rfl
          · exact qL _ x e
      rw [fmtL, if_pos rfl]
      have hh : takeR 40 ((u4 w ++ 58 :: u4 n) ++ l) = (false, (u4 w ++ 58 :: u4 n) ++ l) := tS hnd (by simp)
      rw [hh]
      dsimp only
      rw [dI hnd hl, leaf_c omG omG]
      rfl
    · by_cases c22 : op = 22
      · subst c22
        have hk : ks = [] := List.eq_nil_of_length_eq_zero (by have := hn.len; have e : e8 22 = 0 := rfl; omega)
        have hn0 : n = 0 := hn.num (by decide) (by decide)
        subst hk hn0
        have hname : isNameP nm = true := pO h rfl
        have hnd : ∀ x ∈ nm.data.toList ++ 58 :: u4 w, g9 x = false := fun x hx => by
          rcases List.mem_append.1 hx with e | e
          · rcases kW hname x e with q | q
            · exact zI (.inr (.inl q))
            · exact zI (.inr (.inr (.inl q)))
          · rcases List.mem_cons.1 e with e | e
            · rw [e]; rfl
            · exact qL _ x e
        rw [fmtL, if_neg (by decide), if_pos rfl]
        have hh : takeR 40 ((nm.data.toList ++ 58 :: u4 w) ++ l) = (false, (nm.data.toList ++ 58 :: u4 w) ++ l) := tS hnd (by simp)
        rw [hh]
        dsimp only
        rw [dI hnd hl, leaf_v omG hname]
        rfl
      · rw [sizeT] at hs hc
        rw [fmtL, if_neg c0, if_neg c22, List.cons_append, nK]
        dsimp only
        have q := node_R (rec := m0 f) (c := c + 1) (l := l) h omG omG (fun t ht c' l' hl' hc' => by
          have hst : sizeT t ≤ d5 ks := by
            obtain ⟨i, hi', rfl⟩ := List.getElem_of_mem ht
            have q := sK (ks := ks) hi'
            rwa [show kAt ks i = ks[i] from by unfold kAt; rw [List.getD_eq_getElem?_getD, List.getElem?_eq_getElem hi']; rfl] at q
          have hot : okT t = true := by
            obtain ⟨i, hi', rfl⟩ := List.getElem_of_mem ht
            have q := sD (sI h) hi'
            rwa [show kAt ks i = ks[i] from by unfold kAt; rw [List.getD_eq_getElem?_getD, List.getElem?_eq_getElem hi']; rfl] at q
          exact pS f t c' l' omG hot hl' hc') omG
        simp only [List.append_assoc, List.cons_append, List.nil_append]
        rw [q, sizeT, Nat.add_assoc]
end Vg
