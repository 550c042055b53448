/- What the machine's operations hand back are words. No condition. -/
import Derived.Test.YtndmanmhalpjgaaGreatDoorWords
import Derived.Test.YtndmanmhalpjgaaGreatDoorTermI
import Derived.Lib.Strings
namespace Vg
open Go Go.Proofs
theorem xM {a : Int} (h0 : 0 ≤ a) (h1 : a < 65536) : (BitVec.ofInt IntKind.i64.bits a).toNat = a.toNat := by
  have hb : IntKind.i64.bits = 64 := rfl
  rw [BitVec.toNat_ofInt, hb]
  have : a % ((2 ^ 64 : Nat) : Int) = a := Int.emod_eq_of_lt h0 omG
  rw [this]
theorem wordOf_word {w : Int} (n : Int) (h : inP w 1 16 = true) : wordP w (a7 w n) = true := by
  have F := wf h
  have h2 := F.s2
  have h3 := F.s3
  unfold a7
  rw [if_pos h]
  have e1 : (BitVec.ofInt IntKind.i64.bits n &&& BitVec.ofInt IntKind.i64.bits (2 ^ w.toNat - 1)).toNat ≤ ((2 : Int) ^ w.toNat - 1).toNat := by
    rw [BitVec.toNat_and, xM (a := 2 ^ w.toNat - 1) omG omG]
    exact Nat.and_le_right
  generalize (BitVec.ofInt IntKind.i64.bits n &&& BitVec.ofInt IntKind.i64.bits (2 ^ w.toNat - 1)).toNat = m at e1
  rw [u4 omG omG]
  exact fA h omG omG
theorem fX (k : Nat) : ((2 : Int) ^ k).toNat = 2 ^ k := by
  have : ((2 : Int) ^ k) = ((2 ^ k : Nat) : Int) := by simp
  rw [this]; rfl
theorem oO {w : Int} {a b : Int} (ha : wordP w a = true) (hb : wordP w b = true) (f : Nat → Nat → Nat) (hf : ∀ x y n, x < 2 ^ n → y < 2 ^ n → f x y < 2 ^ n)
    {v : Nat} (hv : v = f (BitVec.ofInt IntKind.i64.bits a).toNat (BitVec.ofInt IntKind.i64.bits b).toNat) : wordP w (IntKind.i64.wrap (v : Nat)) = true := by
  obtain ⟨hw, a0, a1⟩ := w6 ha
  obtain ⟨_, b0, b1⟩ := w6 hb
  have F := wf hw
  have h2 := F.s2
  rw [xM a0 omG, xM b0 omG] at hv
  have e := fX w.toNat
  have := hf a.toNat b.toNat w.toNat omG omG
  subst hv
  generalize f a.toNat b.toNat = m at this
  rw [u4 omG omG]
  exact fA hw omG omG
theorem eD {w : Int} (h : inP w 1 16 = true) (b : Bool) : wordP w (e8 b) = true := by
  have F := wf h
  have h3 := F.s3
  cases b
  · exact fA h (by decide) (by show (0 : Int) < _; omega)
  · exact fA h (by decide) (by show (1 : Int) < _; omega)
theorem zero_word {w : Int} (h : inP w 1 16 = true) : wordP w 0 = true := eD h false
theorem jL {op w a b : Int} (ho : 3 ≤ op ∧ op ≤ 16) (ha : wordP w a = true) (hb : wordP w b = true) : wordP w (d6 op w a b) = true := by
  obtain ⟨hw, a0, a1⟩ := w6 ha
  obtain ⟨_, b0, b1⟩ := w6 hb
  have F := wf hw
  have h2 := F.s2
  have h3 := F.s3
  unfold d6
  rw [if_pos (by simp [ha, hb])]
  have cases_op : op = 3 ∨ op = 4 ∨ op = 5 ∨ op = 6 ∨ op = 7 ∨ op = 8 ∨ op = 9 ∨ op = 10 ∨ op = 11 ∨ op = 12 ∨ op = 13 ∨ op = 14 ∨ op = 15 ∨ op = 16 := by omega
  have hsh : wordP w (nB op w a b) = true := by
    unfold nB
    by_cases h13 : op = 13
    · rw [if_pos h13]; exact wordOf_word _ hw
    rw [if_neg h13]
    by_cases hwb : w ≤ b
    · rw [if_pos hwb]; exact zero_word hw
    rw [if_neg hwb]
    by_cases h11 : op = 11
    · rw [if_pos h11]; exact wordOf_word _ hw
    rw [if_neg h11]
    have hp : (0 : Int) < 2 ^ min b.toNat IntKind.i64.bits := Int.pow_pos (by decide)
    rw [Int.fdiv_eq_ediv_of_nonneg _ (Int.le_of_lt hp)]
    have e1 := Int.ediv_nonneg a0 (Int.le_of_lt hp)
    have e2 : a / 2 ^ min b.toNat IntKind.i64.bits ≤ a := Int.ediv_le_self _ a0
    exact fA hw e1 omG
  have hdiv : wordP w (if b = 0 then 2 ^ w.toNat - 1 else IntKind.i64.wrap (a.tdiv b)) = true := by
    by_cases hb0 : b = 0
    · rw [if_pos hb0]; exact fA hw omG omG
    · rw [if_neg hb0]
      have e1 : 0 ≤ a.tdiv b := Int.tdiv_nonneg a0 b0
      have e2 : a.tdiv b ≤ a := by
        rw [Int.tdiv_eq_ediv_of_nonneg a0]
        exact Int.ediv_le_self b a0
      rw [u4 omG omG]
      exact fA hw e1 omG
  have hrem : wordP w (if b = 0 then a else a.tmod b) = true := by
    by_cases hb0 : b = 0
    · rw [if_pos hb0]; exact ha
    · rw [if_neg hb0]
      have e1 : 0 ≤ a.tmod b := Int.tmod_nonneg b a0
      have e2 : a.tmod b < b := Int.tmod_lt_of_pos a omG
      exact fA hw e1 omG
  have hand := oO ha hb (· &&& ·) (fun x y n hx _ => Nat.lt_of_le_of_lt Nat.and_le_left hx) (v := (BitVec.ofInt IntKind.i64.bits a &&& BitVec.ofInt IntKind.i64.bits b).toNat) (by rw [BitVec.toNat_and])
  have hor := oO ha hb (· ||| ·) (fun x y n hx hy => Nat.or_lt_two_pow hx hy) (v := (BitVec.ofInt IntKind.i64.bits a ||| BitVec.ofInt IntKind.i64.bits b).toNat) (by rw [BitVec.toNat_or])
  have hxor := oO ha hb (· ^^^ ·) (fun x y n hx hy => Nat.xor_lt_two_pow hx hy) (v := (BitVec.ofInt IntKind.i64.bits a ^^^ BitVec.ofInt IntKind.i64.bits b).toNat) (by rw [BitVec.toNat_xor])
  generalize IntKind.i64.wrap (BitVec.ofInt IntKind.i64.bits a &&& BitVec.ofInt IntKind.i64.bits b).toNat = v1 at hand ⊢
  generalize IntKind.i64.wrap (BitVec.ofInt IntKind.i64.bits a ||| BitVec.ofInt IntKind.i64.bits b).toNat = v2 at hor ⊢
  generalize IntKind.i64.wrap (BitVec.ofInt IntKind.i64.bits a ^^^ BitVec.ofInt IntKind.i64.bits b).toNat = v3 at hxor ⊢
  generalize (if b = 0 then 2 ^ w.toNat - 1 else IntKind.i64.wrap (a.tdiv b)) = v4 at hdiv ⊢
  generalize (if b = 0 then a else a.tmod b) = v5 at hrem ⊢
  generalize hv6 : nB op w a b = v6 at hsh ⊢
  have t1 := eD hw (a == b)
  have t2 := eD hw (decide (a < b))
  have t3 := eD hw (decide (m8 w a < m8 w b))
  have m1 := wordOf_word (IntKind.i64.wrap (a + b)) hw
  have m2 := wordOf_word (IntKind.i64.wrap (a - b)) hw
  have m3 := wordOf_word (IntKind.i64.wrap (a * b)) hw
  rcases cases_op with rfl | rfl | rfl | rfl | rfl | rfl | rfl | rfl | rfl | rfl | rfl | rfl | rfl | rfl <;> first | exact m1 | exact m2 | exact m3 | exact hdiv | exact hrem | exact hand | exact hor | exact hxor | exact hsh | exact t1 | exact t2 | exact t3
theorem qbj {w a : Int} (ha : wordP w a = true) : wordP w (kC 1 w a) = true := by
  obtain ⟨hw, a0, a1⟩ := w6 ha
  unfold kC
  rw [if_pos ha, if_pos rfl]
  exact fA hw omG omG
/-! ### strings in order -/
theorem bl_eq : ∀ (x y : List UInt8), Op.bytesLess x y = decide (x < y)
  | [], [] => by simp [Op.bytesLess]
  | _ :: _, [] => by simp [Op.bytesLess]
  | [], _ :: _ => by simp [Op.bytesLess]
  | a :: x, b :: y => by
    rw [Op.bytesLess, bl_eq x y]
    simp only [List.cons_lt_cons_iff]
    by_cases h1 : a < b <;> by_cases h2 : a = b <;> by_cases h3 : x < y <;> simp [h1, h2, h3]
def jA (a b : ByteArray) : Bool := Op.bytesLess a.toList b.toList
theorem jJ {a b : ByteArray} : jA a b = true ↔ a.data.toList < b.data.toList := by
  unfold jA
  rw [bl_eq, Lib.toList_data, Lib.toList_data, decide_eq_true_iff]
theorem uW (a : ByteArray) : jA a a = false := by
  rw [Bool.eq_false_iff]
  intro h
  exact List.lt_irrefl _ (jJ.1 h)
theorem tW {a b c : ByteArray} (h1 : jA a b = true) (h2 : jA b c = true) : jA a c = true := jJ.2 (List.lt_trans (jJ.1 h1) (jJ.1 h2))
theorem vW {a b : ByteArray} (h : jA a b = true) : jA b a = false := by
  rw [Bool.eq_false_iff]
  intro h2
  have := tW h h2
  rw [uW] at this
  cases this
/-! ### numbers and terms in order -/
def p3 (a b : Int) : Int := if a < b then -1 else if b < a then 1 else 0
def n8 (a b : ByteArray) : Int := if jA a b = true then -1 else if jA b a = true then 1 else 0
theorem eM (a b : Int) : p3 b a = - p3 a b := by
  unfold p3
  split <;> split <;> omega
theorem nW (a b : ByteArray) : n8 b a = - n8 a b := by
  unfold n8
  by_cases h1 : jA a b = true
  · rw [if_pos h1, if_neg (by rw [vW h1]; decide), if_pos h1]; rfl
  · by_cases h2 : jA b a = true
    · rw [if_pos h2, if_neg h1, if_pos h2]
    · rw [if_neg h1, if_neg h2, if_neg h2, if_neg h1]; rfl
mutual
def cmpT : V.Term → V.Term → Int
  | ⟨o, w, n, nm, ks⟩, b => if p3 o b.op ≠ 0 then p3 o b.op else if p3 w b.w ≠ 0 then p3 w b.w else if p3 n b.n ≠ 0 then p3 n b.n else if n8 nm b.name ≠ 0 then n8 nm b.name else e9 ks b.kids
def e9 : List V.Term → List V.Term → Int
  | [], [] => 0
  | [], _ :: _ => -1
  | _ :: _, [] => 1
  | a :: xs, b :: ys => if cmpT a b ≠ 0 then cmpT a b else e9 xs ys
end
theorem oE (a b : V.Term) : cmpT a b = if p3 a.op b.op ≠ 0 then p3 a.op b.op else if p3 a.w b.w ≠ 0 then p3 a.w b.w else if p3 a.n b.n ≠ 0 then p3 a.n b.n else if n8 a.name b.name ≠ 0 then n8 a.name b.name else e9 a.kids b.kids := by
  cases a; rw [cmpT]
mutual
theorem xU : ∀ (a b : V.Term), cmpT b a = - cmpT a b
  | ⟨o, w, n, nm, ks⟩, b => by
    rw [oE b, cmpT]
    simp only
    rw [eM o, eM w, eM n, nW nm, wU ks b.kids]
    simp only [ne_eq, Int.neg_eq_zero]
    split
    · rfl
    · split
      · rfl
      · split
        · rfl
        · split <;> rfl
theorem wU : ∀ (a b : List V.Term), e9 b a = - e9 a b
  | [], [] => by simp only [e9]; rfl
  | [], _ :: _ => by simp only [e9]; rfl
  | _ :: _, [] => by simp only [e9]
  | a :: xs, b :: ys => by
    simp only [e9]
    rw [xU a b, wU xs ys]
    simp only [ne_eq, Int.neg_eq_zero]
    split <;> rfl
end
/-! ### kid by kid -/
structure CmpI (a b : V.Term) (i : Nat) : Prop where
  la : i ≤ a.kids.length
  lb : i ≤ b.kids.length
  eq : cmpT a b = e9 (a.kids.drop i) (b.kids.drop i)
theorem cG {l : List V.Term} {i : Nat} (h : (i : Int) < l.length) : l.drop i = kAt l i :: l.drop (i + 1) := by
  have hi : i < l.length := by omega
  rw [List.drop_eq_getElem_cons hi]
  congr 1
  rw [kAt, List.getD_eq_getElem?_getD, List.getElem?_eq_getElem hi]; rfl
section
variable {a b : V.Term} {i : Nat}
theorem cmpI_0 (h1 : ¬ p3 a.op b.op ≠ 0) (h2 : ¬ p3 a.w b.w ≠ 0) (h3 : ¬ p3 a.n b.n ≠ 0) (h4 : ¬ n8 a.name b.name ≠ 0) : CmpI a b 0 := by
  refine ⟨Nat.zero_le _, Nat.zero_le _, ?_⟩
  rw [oE, if_neg h1, if_neg h2, if_neg h3, if_neg h4]; rfl
theorem cmpI_s (h : CmpI a b i) (h1 : (i : Int) < a.kids.length) (h2 : (i : Int) < b.kids.length) (h0 : ¬ cmpT (kAt a.kids i) (kAt b.kids i) ≠ 0) : CmpI a b (i + 1) := by
  refine ⟨by omega, by omega, ?_⟩
  rw [h.eq, cG h1, cG h2, e9, if_neg h0]
theorem cmpI_f (h : CmpI a b i) (h1 : (i : Int) < a.kids.length) (h2 : (i : Int) < b.kids.length) (h0 : cmpT (kAt a.kids i) (kAt b.kids i) ≠ 0) : cmpT a b = cmpT (kAt a.kids i) (kAt b.kids i) := by
  rw [h.eq, cG h1, cG h2, e9, if_pos h0]
theorem yU (h : CmpI a b i) (h1 : ¬ ((i : Int) < a.kids.length ∧ (i : Int) < b.kids.length)) : cmpT a b = p3 a.kids.length b.kids.length := by
  have e1 := h.la
  have e2 := h.lb
  rw [h.eq]
  by_cases ha : (i : Int) < a.kids.length
  · have hb : b.kids.drop i = [] := List.drop_of_length_le omG
    rw [cG ha, hb, e9]
    unfold p3
    rw [if_neg omG, if_pos omG]
  · have ha' : a.kids.drop i = [] := List.drop_of_length_le omG
    rw [ha']
    by_cases hb : (i : Int) < b.kids.length
    · rw [cG hb, e9]
      unfold p3
      rw [if_pos omG]
    · have hb' : b.kids.drop i = [] := List.drop_of_length_le omG
      rw [hb', e9]
      unfold p3
      rw [if_neg omG, if_neg omG]
end
theorem cmp_op {a b : V.Term} (h : p3 a.op b.op ≠ 0) : cmpT a b = p3 a.op b.op := by rw [oE, if_pos h]
theorem cmp_w {a b : V.Term} (h1 : ¬ p3 a.op b.op ≠ 0) (h : p3 a.w b.w ≠ 0) : cmpT a b = p3 a.w b.w := by rw [oE, if_neg h1, if_pos h]
theorem cmp_n {a b : V.Term} (h1 : ¬ p3 a.op b.op ≠ 0) (h2 : ¬ p3 a.w b.w ≠ 0) (h : p3 a.n b.n ≠ 0) : cmpT a b = p3 a.n b.n := by rw [oE, if_neg h1, if_neg h2, if_pos h]
theorem cmp_nm {a b : V.Term} (h1 : ¬ p3 a.op b.op ≠ 0) (h2 : ¬ p3 a.w b.w ≠ 0) (h3 : ¬ p3 a.n b.n ≠ 0) (h : n8 a.name b.name ≠ 0) : cmpT a b = n8 a.name b.name := by rw [oE, if_neg h1, if_neg h2, if_neg h3, if_pos h]
end Vg
namespace Vg
open Go Go.Proofs
abbrev cT (w n : Int) : V.Term := ⟨0, w, n, ByteArray.empty, []⟩
abbrev oT (op w n : Int) (ks : List V.Term) : V.Term := ⟨op, w, n, ByteArray.empty, ks⟩
/-! ### what is known of a good term -/
theorem wM (t : V.Term) : okT t = (yA t.op t.w t.n t.name t.kids && (!decide (t.op = 22) || q7 t.name) && f8 t.kids) := by cases t; rw [okT]
theorem vM : ∀ {ks : List V.Term} {i : Nat}, f8 ks = true → i < ks.length → okT (kAt ks i) = true
  | t :: ts, 0, h, _ => by rw [f8, Bool.and_eq_true] at h; exact h.1
  | t :: ts, i + 1, h, hi => by rw [f8, Bool.and_eq_true] at h; exact vM (ks := ts) (i := i) h.2 (by simpa using hi)
theorem l8 {t : V.Term} (h : okT t = true) : NodeOk t.op t.w t.n t.name t.kids := by
  rw [wM, Bool.and_eq_true, Bool.and_eq_true] at h
  exact cC.1 h.1.1
theorem pR {t : V.Term} (h : okT t = true) : f8 t.kids = true := by
  rw [wM, Bool.and_eq_true] at h
  exact h.2
theorem sJ {t : V.Term} {i : Nat} (h : okT t = true) (hi : i < t.kids.length) : okT (kAt t.kids i) = true := vM (pR h) hi
theorem rJ {op w n : Int} {ks : List V.Term} (h : NodeOk op w n ByteArray.empty ks) (ho : op ≠ 22) (hk : f8 ks = true) : okT (oT op w n ks) = true := by
  rw [wM, Bool.and_eq_true, Bool.and_eq_true]
  exact ⟨⟨cC.2 h, by simp [ho]⟩, hk⟩
theorem oA {n lo hi : Int} : inP n lo hi = true ↔ lo ≤ n ∧ n ≤ hi := by simp [inP]
theorem aC {t : V.Term} (h : okT t = true) : 1 ≤ t.w ∧ t.w ≤ 16 := oA.1 (l8 h).width
theorem k4 {t : V.Term} (h : okT t = true) : inP t.w 1 16 = true := (l8 h).width
theorem okT_n0 {t : V.Term} (h : okT t = true) (h1 : t.op ≠ 0) (h2 : t.op ≠ 19) : t.n = 0 := (l8 h).num h1 h2
theorem qJ {t : V.Term} (h : okT t = true) (hk : t.kids ≠ []) : 1 ≤ t.op ∧ t.op ≤ 21 := by
  have := (l8 h).len
  have h1 : 0 < t.kids.length := by
    cases e : t.kids with
    | nil => exact absurd e hk
    | cons _ _ => simp
  unfold d9 at this
  repeat' split at this
  all_goals omega
theorem ks1 {l : List V.Term} (h : (l.length : Int) = 1) : l = [kAt l 0] := by
  match l, h with
  | [a], _ => rfl
  | [], h => simp at h
  | _ :: _ :: _, h => simp at h; omega
theorem ks2 {l : List V.Term} (h : (l.length : Int) = 2) : l = [kAt l 0, kAt l 1] := by
  match l, h with
  | [a, b], _ => rfl
  | [], h => simp at h
  | [_], h => simp at h
  | _ :: _ :: _ :: _, h => simp at h; omega
theorem ks3 {l : List V.Term} (h : (l.length : Int) = 3) : l = [kAt l 0, kAt l 1, kAt l 2] := by
  match l, h with
  | [a, b, c], _ => rfl
  | [], h => simp at h
  | [_], h => simp at h
  | [_, _], h => simp at h
  | _ :: _ :: _ :: _ :: _, h => simp at h; omega
abbrev k0 (t : V.Term) : V.Term := kAt t.kids 0
abbrev k1 (t : V.Term) : V.Term := kAt t.kids 1
abbrev k2 (t : V.Term) : V.Term := kAt t.kids 2
section
variable {t : V.Term}
theorem pF (h : okT t = true) (ho : t.op = 1 ∨ t.op = 2 ∨ t.op = 19 ∨ t.op = 20 ∨ t.op = 21) : (t.kids.length : Int) = 1 := by
  rw [(l8 h).len]; unfold d9; rw [if_neg omG, if_pos ho]
theorem rB (h : okT t = true) (ho : (3 ≤ t.op ∧ t.op ≤ 16) ∨ t.op = 18) : (t.kids.length : Int) = 2 := by
  rw [(l8 h).len]; unfold d9; rw [if_neg omG, if_neg omG, if_pos ho]
theorem bB (h : okT t = true) (ho : t.op = 17) : (t.kids.length : Int) = 3 := by
  rw [(l8 h).len]; unfold d9; rw [if_neg omG, if_neg omG, if_neg omG, if_pos ho]
theorem lI (h : okT t = true) (ho : t.op = 0) : wordP t.w t.n = true := (l8 h).const ho
theorem xF (h : okT t = true) (ho : t.op = 1 ∨ t.op = 2) : (k0 t).w = t.w := by
  have := (l8 h).fit
  unfold w7 at this
  rw [if_neg omG, if_pos ho] at this
  simpa using this
theorem pD (h : okT t = true) (ho : 3 ≤ t.op ∧ t.op ≤ 13) : (k0 t).w = t.w ∧ (k1 t).w = t.w := by
  have := (l8 h).fit
  unfold w7 at this
  rw [if_neg omG, if_neg omG, if_pos ho] at this
  simpa using this
theorem aO (h : okT t = true) (ho : 14 ≤ t.op ∧ t.op ≤ 16) : (k0 t).w = (k1 t).w ∧ t.w = 1 := by
  have := (l8 h).fit
  unfold w7 at this
  rw [if_neg omG, if_neg omG, if_neg omG, if_pos ho] at this
  simpa using this
theorem bO (h : okT t = true) (ho : t.op = 17) : (k0 t).w = 1 ∧ (k1 t).w = t.w ∧ (k2 t).w = t.w := by
  have := (l8 h).fit
  unfold w7 at this
  rw [if_neg omG, if_neg omG, if_neg omG, if_neg omG, if_pos ho] at this
  simp only [Bool.and_eq_true, decide_eq_true_eq] at this
  exact ⟨this.1.1, this.1.2, this.2⟩
theorem vK (h : okT t = true) (ho : t.op = 18) : (k0 t).w + (k1 t).w = t.w := by
  have := (l8 h).fit
  unfold w7 at this
  rw [if_neg omG, if_neg omG, if_neg omG, if_neg omG, if_neg omG, if_pos ho] at this
  simpa using this
theorem xC (h : okT t = true) (ho : t.op = 19) : 0 ≤ t.n ∧ t.n ≤ (k0 t).w - t.w := by
  have := (l8 h).fit
  unfold w7 at this
  rw [if_neg omG, if_neg omG, if_neg omG, if_neg omG, if_neg omG, if_neg omG, if_pos ho] at this
  simpa using this
theorem cO (h : okT t = true) (ho : t.op = 20 ∨ t.op = 21) : (k0 t).w ≤ t.w := by
  have := (l8 h).fit
  unfold w7 at this
  rw [if_neg omG, if_neg omG, if_neg omG, if_neg omG, if_neg omG, if_neg omG, if_neg omG] at this
  simpa using this
theorem d3 (h : okT t = true) (ho : 1 ≤ t.op ∧ t.op ≤ 21) : okT (k0 t) = true := by
  apply sJ h
  have h1 := pF h
  have h2 := rB h
  have h3 := bB h
  omega
theorem b4 (h : okT t = true) (ho : (3 ≤ t.op ∧ t.op ≤ 18)) : okT (k1 t) = true := by
  apply sJ h
  have h2 := rB h
  have h3 := bB h
  omega
theorem ok2 (h : okT t = true) (ho : t.op = 17) : okT (k2 t) = true := by
  apply sJ h
  have h3 := bB h
  omega
end
theorem dC {op w n : Int} {a : V.Term} (ha : okT a = true) (hw : 1 ≤ w ∧ w ≤ 16) (ho : op = 1 ∨ op = 2 ∨ op = 19 ∨ op = 20 ∨ op = 21) (hn : op ≠ 19 → n = 0) (hf : w7 op w n [a] = true) : okT (oT op w n [a]) = true := by
  refine rJ ⟨oA.2 hw, ?_, ?_, hf, fun e => by omega, fun _ e => hn e, fun _ => rfl⟩ omG (by simp [f8, ha])
  · unfold d9; rw [if_neg omG, if_pos ho]; rfl
  · simp [k4 ha]
theorem jH {op w : Int} {a b : V.Term} (ha : okT a = true) (hb : okT b = true) (hw : 1 ≤ w ∧ w ≤ 16) (ho : (3 ≤ op ∧ op ≤ 16) ∨ op = 18) (hf : w7 op w 0 [a, b] = true) : okT (oT op w 0 [a, b]) = true := by
  refine rJ ⟨oA.2 hw, ?_, ?_, hf, fun e => by omega, fun _ _ => rfl, fun _ => rfl⟩ omG (by simp [f8, ha, hb])
  · unfold d9; rw [if_neg omG, if_neg omG, if_pos ho]; rfl
  · simp [k4 ha, k4 hb]
theorem mk_i {w : Int} {a b c : V.Term} (ha : okT a = true) (hb : okT b = true) (hc : okT c = true) (hw : 1 ≤ w ∧ w ≤ 16) (hf : w7 17 w 0 [a, b, c] = true) : okT (oT 17 w 0 [a, b, c]) = true := by
  refine rJ ⟨oA.2 hw, ?_, ?_, hf, fun e => by omega, fun _ _ => rfl, fun _ => rfl⟩ omG (by simp [f8, ha, hb, hc])
  · rfl
  · simp [k4 ha, k4 hb, k4 hc]
theorem p8 {w n : Int} (h : wordP w n = true) : okT (cT w n) = true := by
  refine rJ ⟨(w6 h).1, rfl, rfl, rfl, fun _ => h, fun e => absurd rfl e, fun _ => rfl⟩ (by decide) rfl
/-! ### values -/
def x9 (w a low n : Int) : Int := if wordP w a = true ∧ 0 ≤ low ∧ 1 ≤ n ∧ n ≤ w - low then a7 n (Int.fdiv a (2 ^ min low.toNat IntKind.i64.bits)) else -1
def sB (w a v b : Int) : Int := if wordP w a = true ∧ wordP v b = true ∧ w + v ≤ 16 then a * 2 ^ v.toNat + b else -1
def uA (w a n : Int) (s : Bool) : Int := if wordP w a = true ∧ w ≤ n ∧ n ≤ 16 then (if s = true then a7 n (m8 w a) else a) else -1
abbrev xAt (x : List Int) (i : Nat) : Int := x.getD i K.ints.dflt
def q6 (t : V.Term) (x : List Int) : Int :=
  if t.op = 1 ∨ t.op = 2 then kC t.op (k0 t).w (xAt x 0)
  else if 3 ≤ t.op ∧ t.op ≤ 16 then d6 t.op (k0 t).w (xAt x 0) (xAt x 1)
  else if t.op = 17 then (if xAt x 0 = 1 then xAt x 1 else xAt x 2)
  else if t.op = 18 then sB (k0 t).w (xAt x 0) (k1 t).w (xAt x 1)
  else if t.op = 19 then x9 (k0 t).w (xAt x 0) t.n t.w
  else uA (k0 t).w (xAt x 0) t.w (t.op == 21)
theorem qbk {op w a : Int} (ho : op = 1 ∨ op = 2) (ha : wordP w a = true) : wordP w (kC op w a) = true := by
  rcases ho with rfl | rfl
  · exact qbj ha
  · have := wordOf_word (IntKind.i64.wrap (0 - a)) (w6 ha).1
    unfold kC
    rw [if_pos ha, if_neg (by decide), if_pos rfl]
    exact this
theorem qbl {op w a b : Int} (ho : 14 ≤ op ∧ op ≤ 16) (ha : wordP w a = true) (hb : wordP w b = true) : wordP 1 (d6 op w a b) = true := by
  have c : op = 14 ∨ op = 15 ∨ op = 16 := by omega
  have e : (wordP w a && wordP w b) = true := by rw [ha, hb]; rfl
  rcases c with rfl | rfl | rfl
  · have : d6 14 w a b = e8 (a == b) := by unfold d6; rw [if_pos e]; rfl
    rw [this]; exact eD (by decide) _
  · have : d6 15 w a b = e8 (decide (a < b)) := by unfold d6; rw [if_pos e]; rfl
    rw [this]; exact eD (by decide) _
  · have : d6 16 w a b = e8 (decide (m8 w a < m8 w b)) := by unfold d6; rw [if_pos e]; rfl
    rw [this]; exact eD (by decide) _
theorem join_w {w a v b : Int} (ha : wordP w a = true) (hb : wordP v b = true) (hw : w + v ≤ 16) : wordP (w + v) (sB w a v b) = true := by
  unfold sB
  rw [if_pos ⟨ha, hb, hw⟩]
  obtain ⟨h1, a0, a1⟩ := w6 ha
  obtain ⟨h2, b0, b1⟩ := w6 hb
  rw [oA] at h1 h2
  have hp : (0 : Int) < 2 ^ v.toNat := Int.pow_pos (by decide)
  have e : (2 : Int) ^ (w + v).toNat = 2 ^ w.toNat * 2 ^ v.toNat := by
    rw [← Int.pow_add]
    congr 1
    omega
  have h3 : 0 ≤ a * 2 ^ v.toNat := Int.mul_nonneg a0 (Int.le_of_lt hp)
  have h4 : (a + 1) * 2 ^ v.toNat ≤ 2 ^ w.toNat * 2 ^ v.toNat := Int.mul_le_mul_of_nonneg_right omG (Int.le_of_lt hp)
  rw [Int.add_mul, Int.one_mul] at h4
  refine fA (oA.2 ⟨by omega, by omega⟩) omG ?_
  rw [e]
  omega
theorem widen_w {w a n : Int} {s : Bool} (ha : wordP w a = true) (h1 : w ≤ n) (h2 : n ≤ 16) : wordP n (uA w a n s) = true := by
  unfold uA
  rw [if_pos ⟨ha, h1, h2⟩]
  obtain ⟨hw, a0, a1⟩ := w6 ha
  rw [oA] at hw
  have hn : inP n 1 16 = true := oA.2 ⟨by omega, by omega⟩
  split
  · exact wordOf_word _ hn
  · refine fA hn a0 ?_
    have e : n.toNat = w.toNat + (n - w).toNat := by omega
    have hp : (1 : Int) ≤ 2 ^ (n - w).toNat := by have : (0 : Int) < 2 ^ (n - w).toNat := Int.pow_pos (by decide); omega
    have hq : (0 : Int) ≤ 2 ^ w.toNat := Int.le_of_lt (Int.pow_pos (by decide))
    have := Int.mul_le_mul_of_nonneg_left hp hq
    rw [e, Int.pow_add]
    omega
theorem cut_w {w a low n : Int} (ha : wordP w a = true) (h0 : 0 ≤ low) (h1 : 1 ≤ n) (h2 : n ≤ w - low) : wordP n (x9 w a low n) = true := by
  unfold x9
  rw [if_pos ⟨ha, h0, h1, h2⟩]
  have hw := (w6 ha).1
  rw [oA] at hw
  exact wordOf_word _ (oA.2 ⟨h1, by omega⟩)
theorem qbm {t : V.Term} {x : List Int} (h : okT t = true) (ho : 1 ≤ t.op ∧ t.op ≤ 21) (hx : ∀ i, i < t.kids.length → wordP (kAt t.kids i).w (xAt x i) = true) : wordP t.w (q6 t x) = true := by
  have hw := aC h
  have h0 : wordP (k0 t).w (xAt x 0) = true := hx 0 (by have h1 := pF h; have h2 := rB h; have h3 := bB h; omega)
  unfold q6
  by_cases c1 : t.op = 1 ∨ t.op = 2
  · rw [if_pos c1]
    have e := xF h c1
    rw [e] at h0 ⊢
    exact qbk c1 h0
  rw [if_neg c1]
  by_cases c2 : 3 ≤ t.op ∧ t.op ≤ 16
  · rw [if_pos c2]
    have h1 : wordP (k1 t).w (xAt x 1) = true := hx 1 (by have h2 := rB h; omega)
    by_cases c3 : t.op ≤ 13
    · have e := pD h ⟨c2.1, c3⟩
      rw [e.1] at h0 ⊢
      rw [e.2] at h1
      exact jL c2 h0 h1
    · have e := aO h ⟨by omega, c2.2⟩
      rw [e.2]
      rw [← e.1] at h1
      exact qbl ⟨by omega, c2.2⟩ h0 h1
  rw [if_neg c2]
  by_cases c3 : t.op = 17
  · rw [if_pos c3]
    have e := bO h c3
    have h1 : wordP (k1 t).w (xAt x 1) = true := hx 1 (by have h2 := bB h; omega)
    have h2 : wordP (k2 t).w (xAt x 2) = true := hx 2 (by have h2 := bB h; omega)
    rw [e.2.1] at h1
    rw [e.2.2] at h2
    split
    · exact h1
    · exact h2
  rw [if_neg c3]
  by_cases c4 : t.op = 18
  · rw [if_pos c4]
    have h1 : wordP (k1 t).w (xAt x 1) = true := hx 1 (by have h2 := rB h; omega)
    have e := vK h c4
    have := join_w h0 h1 omG
    rwa [e] at this
  rw [if_neg c4]
  by_cases c5 : t.op = 19
  · rw [if_pos c5]
    have e := xC h c5
    exact cut_w h0 e.1 hw.1 omG
  rw [if_neg c5]
  exact widen_w h0 (cO h omG) hw.2
/-! ### the rules -/
def u0 (op : Int) : Prop := op = 3 ∨ op = 5 ∨ op = 8 ∨ op = 9 ∨ op = 10 ∨ op = 14
instance (op : Int) : Decidable (u0 op) := by unfold u0; infer_instance
abbrev onW (w : Int) : Int := 2 ^ w.toNat - 1
def yG (t : V.Term) : V.Term × Bool := if (k0 t).op = t.op then (k0 (k0 t), false) else (t, false)
def aH (t : V.Term) : V.Term × Bool :=
  if (k0 t).op = 0 ∧ (k0 t).n = 1 then (k1 t, false)
  else if (k0 t).op = 0 then (k2 t, false)
  else if cmpT (k1 t) (k2 t) = 0 then (k1 t, false)
  else if (k0 t).op = 1 then (oT 17 t.w 0 [k0 (k0 t), k2 t, k1 t], true)
  else if t.w = 1 ∧ ((k1 t).op = 0 ∧ (k1 t).n = 1) ∧ ((k2 t).op = 0 ∧ (k2 t).n = 0) then (k0 t, false)
  else if t.w = 1 ∧ ((k1 t).op = 0 ∧ (k1 t).n = 0) ∧ ((k2 t).op = 0 ∧ (k2 t).n = 1) then (oT 1 1 0 [k0 t], true)
  else (t, false)
def bH (t : V.Term) : V.Term × Bool :=
  if t.n = 0 ∧ t.w = (k0 t).w then (k0 t, false)
  else if (k0 t).op = 19 then (oT 19 t.w (t.n + (k0 t).n) [k0 (k0 t)], true)
  else if (k0 t).op = 18 ∧ t.n + t.w ≤ (k1 (k0 t)).w then (oT 19 t.w t.n [k1 (k0 t)], true)
  else if (k0 t).op = 18 ∧ (k1 (k0 t)).w ≤ t.n then (oT 19 t.w (t.n - (k1 (k0 t)).w) [k0 (k0 t)], true)
  else if ((k0 t).op = 20 ∨ (k0 t).op = 21) ∧ t.n + t.w ≤ (k0 (k0 t)).w then (oT 19 t.w t.n [k0 (k0 t)], true)
  else (t, false)
def xG (t : V.Term) : V.Term × Bool :=
  if t.w = (k0 t).w then (k0 t, false)
  else if (k0 t).op = t.op then (oT t.op t.w 0 [k0 (k0 t)], true)
  else (t, false)
def zG (t : V.Term) : V.Term × Bool :=
  if (k0 t).op = 19 ∧ (k1 t).op = 19 ∧ (k0 t).n = (k1 t).n + (k1 t).w ∧ cmpT (k0 (k0 t)) (k0 (k1 t)) = 0 then (oT 19 t.w (k1 t).n [k0 (k1 t)], true)
  else (t, false)
def f4 (t : V.Term) : V.Term × Bool :=
  if u0 t.op ∧ cmpT (k0 t) (k1 t) = 1 then (oT t.op t.w 0 [k1 t, k0 t], true)
  else if (k0 t).op = 0 ∧ ((t.op = 3 ∧ (k0 t).n = 0) ∨ (t.op = 5 ∧ (k0 t).n = 1) ∨ (t.op = 8 ∧ (k0 t).n = onW (k0 t).w) ∨ (t.op = 9 ∧ (k0 t).n = 0) ∨ (t.op = 10 ∧ (k0 t).n = 0) ∨ (t.op = 14 ∧ (k0 t).w = 1 ∧ (k0 t).n = 1)) then (k1 t, false)
  else if (k0 t).op = 0 ∧ ((t.op = 5 ∧ (k0 t).n = 0) ∨ (t.op = 8 ∧ (k0 t).n = 0)) then (cT t.w 0, false)
  else if (k0 t).op = 0 ∧ t.op = 9 ∧ (k0 t).n = onW (k0 t).w then (cT t.w (onW (k0 t).w), false)
  else if (k0 t).op = 0 ∧ ((t.op = 10 ∧ (k0 t).n = onW (k0 t).w) ∨ (t.op = 14 ∧ (k0 t).w = 1 ∧ (k0 t).n = 0)) then (oT 1 t.w 0 [k1 t], true)
  else if (k1 t).op = 0 ∧ (k1 t).n = 0 ∧ (t.op = 4 ∨ t.op = 11 ∨ t.op = 12 ∨ t.op = 13) then (k0 t, false)
  else if (k1 t).op = 0 ∧ (k1 t).n = 0 ∧ t.op = 15 then (cT 1 0, false)
  else if cmpT (k0 t) (k1 t) = 0 ∧ (t.op = 8 ∨ t.op = 9) then (k0 t, false)
  else if cmpT (k0 t) (k1 t) = 0 ∧ (t.op = 4 ∨ t.op = 10 ∨ t.op = 15 ∨ t.op = 16) then (cT t.w 0, false)
  else if cmpT (k0 t) (k1 t) = 0 ∧ t.op = 14 then (cT 1 1, false)
  else if (u0 t.op ∧ t.op ≠ 14) ∧ (k0 t).op = 0 ∧ (k1 t).op = t.op ∧ (k0 (k1 t)).op = 0 then (oT t.op t.w 0 [cT t.w (d6 t.op t.w (k0 t).n (k0 (k1 t)).n), k1 (k1 t)], true)
  else (t, false)
def l5 (t : V.Term) : V.Term × Bool :=
  if t.op = 1 ∨ t.op = 2 then yG t
  else if t.op = 17 then aH t
  else if t.op = 19 then bH t
  else if t.op = 20 ∨ t.op = 21 then xG t
  else if t.op = 18 then zG t
  else f4 t
def d5 (t : V.Term) : Nat := 2 * sizeT t + (if u0 t.op ∧ cmpT (k0 t) (k1 t) = 1 then 1 else 0)
theorem eC {x t : V.Term} (h : sizeT x < sizeT t) : d5 x < d5 t := by
  unfold d5
  split <;> split <;> omega
theorem bM (t : V.Term) : sizeT t = 1 + i7 t.kids := by cases t; rw [sizeT]
section
variable {t : V.Term}
theorem gD (h : okT t = true) (ho : t.op = 1 ∨ t.op = 2 ∨ t.op = 19 ∨ t.op = 20 ∨ t.op = 21) : sizeT t = 1 + sizeT (k0 t) := by
  rw [bM, ks1 (pF h ho)]; simp [i7]
theorem tG (h : okT t = true) (ho : (3 ≤ t.op ∧ t.op ≤ 16) ∨ t.op = 18) : sizeT t = 1 + (sizeT (k0 t) + sizeT (k1 t)) := by
  rw [bM, ks2 (rB h ho)]; simp [i7]
theorem sz_i (h : okT t = true) (ho : t.op = 17) : sizeT t = 1 + (sizeT (k0 t) + (sizeT (k1 t) + sizeT (k2 t))) := by
  rw [bM, ks3 (bB h ho)]; simp [i7]
end
theorem oC {op w n : Int} {a : V.Term} : sizeT (oT op w n [a]) = 1 + sizeT a := by simp [sizeT, i7]
theorem sz_2 {op w n : Int} {a b : V.Term} : sizeT (oT op w n [a, b]) = 1 + (sizeT a + sizeT b) := by simp [sizeT, i7]
theorem sz_3 {op w n : Int} {a b c : V.Term} : sizeT (oT op w n [a, b, c]) = 1 + (sizeT a + (sizeT b + sizeT c)) := by simp [sizeT, i7]
theorem sz_c {w n : Int} : sizeT (cT w n) = 1 := by simp [sizeT, i7]
theorem k5 {α : Type} {a x : α} {P : Prop} (h : (a, false) = (x, true)) : P := by simp at h
theorem l7 {α : Type} {a x : α} (h : (a, true) = (x, true)) : x = a := by simp at h; exact h.symm
theorem fit_bS {op w : Int} {a b : V.Term} (h : w7 op w 0 [a, b] = true) (ho : 3 ≤ op ∧ op ≤ 13 ∨ op = 14) : w7 op w 0 [b, a] = true := by
  unfold w7 at h ⊢
  rw [if_neg omG, if_neg omG] at h ⊢
  rcases ho with ho | ho
  · rw [if_pos ho] at h ⊢
    rw [Bool.and_comm]; exact h
  · rw [if_neg omG, if_pos omG] at h ⊢
    simp only [Bool.and_eq_true, decide_eq_true_eq] at h ⊢
    exact ⟨h.1.symm, h.2⟩
theorem s1 {α : Type} {p : Prop} [Decidable p] {a b x : α} (h : (if p then a else b) = x) : (p ∧ a = x) ∨ (¬ p ∧ b = x) := by
  by_cases hp : p
  · rw [if_pos hp] at h; exact .inl ⟨hp, h⟩
  · rw [if_neg hp] at h; exact .inr ⟨hp, h⟩
theorem l9 {t x : V.Term} (h : okT t = true) (ho : 1 ≤ t.op ∧ t.op ≤ 21) (hr : l5 t = (x, true)) : okT x = true ∧ d5 x < d5 t := by
  have hw := aC h
  have a0 := d3 h ho
  unfold l5 at hr
  by_cases c1 : t.op = 1 ∨ t.op = 2
  · rw [if_pos c1] at hr
    unfold yG at hr
    rcases s1 hr with ⟨_, hr⟩ | ⟨_, hr⟩ <;> exact k5 hr
  rw [if_neg c1] at hr
  by_cases c2 : t.op = 17
  · rw [if_pos c2] at hr
    have a1 := b4 h omG
    have a2 := ok2 h omG
    have e := bO h c2
    have es := sz_i h c2
    unfold aH at hr
    rcases s1 hr with ⟨c, hr⟩ | ⟨c, hr⟩
    · exact k5 hr
    rcases s1 hr with ⟨c, hr⟩ | ⟨c, hr⟩
    · exact k5 hr
    rcases s1 hr with ⟨c, hr⟩ | ⟨c, hr⟩
    · exact k5 hr
    rcases s1 hr with ⟨c, hr⟩ | ⟨c, hr⟩
    · obtain rfl := l7 hr
      have f := xF a0 (.inl c)
      have s := gD a0 (.inl c)
      refine ⟨mk_i (d3 a0 omG) a2 a1 hw ?_, eC ?_⟩
      · show (decide ((k0 (k0 t)).w = 1) && decide ((k2 t).w = t.w) && decide ((k1 t).w = t.w)) = true
        simp only [Bool.and_eq_true, decide_eq_true_eq]
        exact ⟨⟨by omega, e.2.2⟩, e.2.1⟩
      · rw [sz_3]; omega
    rcases s1 hr with ⟨c, hr⟩ | ⟨c, hr⟩
    · exact k5 hr
    rcases s1 hr with ⟨c, hr⟩ | ⟨c, hr⟩
    · obtain rfl := l7 hr
      refine ⟨dC a0 omG omG (fun _ => rfl) ?_, eC ?_⟩
      · show decide ((k0 t).w = 1) = true
        exact decide_eq_true e.1
      · rw [oC]
        have := gJ (k1 t)
        omega
    · exact k5 hr
  rw [if_neg c2] at hr
  by_cases c3 : t.op = 19
  · rw [if_pos c3] at hr
    have e := xC h c3
    have es := gD h omG
    unfold bH at hr
    rcases s1 hr with ⟨c, hr⟩ | ⟨c, hr⟩
    · exact k5 hr
    rcases s1 hr with ⟨c, hr⟩ | ⟨c, hr⟩
    · obtain rfl := l7 hr
      have f := xC a0 c
      have s := gD a0 omG
      refine ⟨dC (d3 a0 omG) hw omG (fun e => absurd rfl e) ?_, eC (by rw [oC]; omega)⟩
      show (decide (0 ≤ t.n + (k0 t).n) && decide (t.n + (k0 t).n ≤ (k0 (k0 t)).w - t.w)) = true
      simp only [Bool.and_eq_true, decide_eq_true_eq]
      omega
    rcases s1 hr with ⟨c, hr⟩ | ⟨c, hr⟩
    · obtain rfl := l7 hr
      have f := vK a0 c.1
      have s := tG a0 (.inr c.1)
      refine ⟨dC (b4 a0 omG) hw omG (fun e => absurd rfl e) ?_, eC (by rw [oC]; omega)⟩
      show (decide (0 ≤ t.n) && decide (t.n ≤ (k1 (k0 t)).w - t.w)) = true
      simp only [Bool.and_eq_true, decide_eq_true_eq]
      omega
    rcases s1 hr with ⟨c, hr⟩ | ⟨c, hr⟩
    · obtain rfl := l7 hr
      have f := vK a0 c.1
      have s := tG a0 (.inr c.1)
      refine ⟨dC (d3 a0 omG) hw omG (fun e => absurd rfl e) ?_, eC (by rw [oC]; omega)⟩
      show (decide (0 ≤ t.n - (k1 (k0 t)).w) && decide (t.n - (k1 (k0 t)).w ≤ (k0 (k0 t)).w - t.w)) = true
      simp only [Bool.and_eq_true, decide_eq_true_eq]
      omega
    rcases s1 hr with ⟨c, hr⟩ | ⟨c, hr⟩
    · obtain rfl := l7 hr
      have s := gD a0 omG
      refine ⟨dC (d3 a0 omG) hw omG (fun e => absurd rfl e) ?_, eC (by rw [oC]; omega)⟩
      show (decide (0 ≤ t.n) && decide (t.n ≤ (k0 (k0 t)).w - t.w)) = true
      simp only [Bool.and_eq_true, decide_eq_true_eq]
      omega
    · exact k5 hr
  rw [if_neg c3] at hr
  by_cases c4 : t.op = 20 ∨ t.op = 21
  · rw [if_pos c4] at hr
    have e := cO h c4
    have es := gD h omG
    unfold xG at hr
    rcases s1 hr with ⟨c, hr⟩ | ⟨c, hr⟩
    · exact k5 hr
    rcases s1 hr with ⟨c, hr⟩ | ⟨c, hr⟩
    · obtain rfl := l7 hr
      have f := cO a0 omG
      have s := gD a0 omG
      refine ⟨dC (d3 a0 omG) hw omG (fun _ => rfl) ?_, eC (by rw [oC]; omega)⟩
      unfold w7
      rw [if_neg omG, if_neg omG, if_neg omG, if_neg omG, if_neg omG, if_neg omG, if_neg omG]
      show decide ((k0 (k0 t)).w ≤ t.w) = true
      exact decide_eq_true omG
    · exact k5 hr
  rw [if_neg c4] at hr
  have a1 := b4 h omG
  by_cases c5 : t.op = 18
  · rw [if_pos c5] at hr
    have e := vK h c5
    have es := tG h (.inr c5)
    unfold zG at hr
    rcases s1 hr with ⟨c, hr⟩ | ⟨c, hr⟩
    · obtain rfl := l7 hr
      have f0 := xC a0 c.1
      have f := xC a1 c.2.1
      have s := gD a1 omG
      have s0 := gD a0 omG
      have hx : (k0 (k0 t)).w = (k0 (k1 t)).w := by
        have := c.2.2.2
        rw [oE] at this
        by_cases q1 : p3 (k0 (k0 t)).op (k0 (k1 t)).op ≠ 0
        · rw [if_pos q1] at this; exact absurd this q1
        rw [if_neg q1] at this
        by_cases q2 : p3 (k0 (k0 t)).w (k0 (k1 t)).w ≠ 0
        · rw [if_pos q2] at this; exact absurd this q2
        · have q3 : p3 (k0 (k0 t)).w (k0 (k1 t)).w = 0 := by omega
          unfold p3 at q3
          split at q3
          · omega
          · split at q3 <;> omega
      refine ⟨dC (d3 a1 omG) hw omG (fun e => absurd rfl e) ?_, eC (by rw [oC]; omega)⟩
      show (decide (0 ≤ (k1 t).n) && decide ((k1 t).n ≤ (k0 (k1 t)).w - t.w)) = true
      simp only [Bool.and_eq_true, decide_eq_true_eq]
      omega
    · exact k5 hr
  rw [if_neg c5] at hr
  have es := tG h omG
  unfold f4 at hr
  rcases s1 hr with ⟨c, hr⟩ | ⟨c, hr⟩
  · obtain rfl := l7 hr
    have hs := c.1
    unfold u0 at hs
    have hf := (l8 h).fit
    rw [okT_n0 h omG omG, ks2 (rB h omG)] at hf
    refine ⟨jH a1 a0 hw omG (fit_bS hf omG), ?_⟩
    unfold d5
    rw [if_pos c, if_neg (fun q => by
      have q2 : cmpT (k1 t) (k0 t) = 1 := q.2
      rw [xU] at q2
      omega), sz_2]
    omega
  rcases s1 hr with ⟨c, hr⟩ | ⟨c, hr⟩
  · exact k5 hr
  rcases s1 hr with ⟨c, hr⟩ | ⟨c, hr⟩
  · exact k5 hr
  rcases s1 hr with ⟨c, hr⟩ | ⟨c, hr⟩
  · exact k5 hr
  rcases s1 hr with ⟨c, hr⟩ | ⟨c, hr⟩
  · obtain rfl := l7 hr
    refine ⟨dC a1 hw omG (fun _ => rfl) ?_, eC ?_⟩
    · show decide ((k1 t).w = t.w) = true
      rcases c.2 with q | q
      · exact decide_eq_true (pD h omG).2
      · have := aO h omG
        exact decide_eq_true omG
    · rw [oC]
      have := gJ (k0 t)
      omega
  rcases s1 hr with ⟨c, hr⟩ | ⟨c, hr⟩
  · exact k5 hr
  rcases s1 hr with ⟨c, hr⟩ | ⟨c, hr⟩
  · exact k5 hr
  rcases s1 hr with ⟨c, hr⟩ | ⟨c, hr⟩
  · exact k5 hr
  rcases s1 hr with ⟨c, hr⟩ | ⟨c, hr⟩
  · exact k5 hr
  rcases s1 hr with ⟨c, hr⟩ | ⟨c, hr⟩
  · exact k5 hr
  rcases s1 hr with ⟨c, hr⟩ | ⟨c, hr⟩
  · obtain rfl := l7 hr
    have hs := c.1.1
    have hs2 := c.1.2
    unfold u0 at hs
    have e := pD h omG
    have f := pD a1 omG
    have b0 := d3 a1 omG
    have s := tG a1 omG
    have w0 := lI a0 c.2.1
    have w1 := lI b0 c.2.2.2
    have e1 : (k0 t).w = t.w := e.1
    have e2 : (k0 (k1 t)).w = t.w := by rw [f.1]; exact e.2
    rw [e1] at w0
    rw [e2] at w1
    have hk := p8 (jL (op := t.op) omG w0 w1)
    refine ⟨jH hk (b4 a1 omG) hw omG ?_, eC ?_⟩
    · unfold w7
      rw [if_neg omG, if_neg omG, if_pos omG]
      show (decide (t.w = t.w) && decide ((k1 (k1 t)).w = t.w)) = true
      simp only [Bool.and_eq_true, decide_eq_true_eq]
      exact ⟨trivial, by rw [f.2]; exact e.2⟩
    · rw [sz_2, sz_c]
      have := gJ (k0 t)
      have := gJ (k0 (k1 t))
      omega
  · exact k5 hr
/-! ### all rules, one after the other -/
def o4 (ks : List V.Term) : Bool := ks.all fun k => decide (k.op = 0)
abbrev nums (ks : List V.Term) : List Int := ks.map (·.n)
def y8 : Nat → V.Term → V.Term
  | 0, t => t
  | f + 1, t => if t.kids.length = 0 then t else if o4 t.kids = true then cT t.w (q6 t (nums t.kids)) else if (l5 t).2 = true then y8 f (l5 t).1 else (l5 t).1
def d4 (t : V.Term) : V.Term := y8 (d5 t + 1) t
theorem zR : ∀ (f g : Nat) (t : V.Term), okT t = true → d5 t < f → d5 t < g → y8 f t = y8 g t
  | 0, _, _, _, h, _ => by omega
  | _, 0, _, _, _, h => by omega
  | f + 1, g + 1, t, h, hf, hg => by
    rw [y8, y8]
    by_cases c1 : t.kids.length = 0
    · rw [if_pos c1, if_pos c1]
    rw [if_neg c1, if_neg c1]
    by_cases c2 : o4 t.kids = true
    · rw [if_pos c2, if_pos c2]
    rw [if_neg c2, if_neg c2]
    by_cases c3 : (l5 t).2 = true
    · rw [if_pos c3, if_pos c3]
      have ho : 1 ≤ t.op ∧ t.op ≤ 21 := qJ h (fun e => c1 (by rw [e]; rfl))
      have := l9 (x := (l5 t).1) h ho (Prod.ext rfl c3)
      exact zR f g _ this.1 omG omG
    · rw [if_neg c3, if_neg c3]
section
variable {t x : V.Term}
theorem uX (h : t.kids.length = 0) : d4 t = t := by unfold d4; rw [y8, if_pos h]
theorem cN (h : t.kids.length ≠ 0) (hc : o4 t.kids = true) : d4 t = cT t.w (q6 t (nums t.kids)) := by unfold d4; rw [y8, if_neg h, if_pos hc]
theorem vX (h : t.kids.length ≠ 0) (hc : o4 t.kids = false) (hr : l5 t = (x, false)) : d4 t = x := by
  unfold d4
  rw [y8, if_neg h, if_neg (by rw [hc]; decide), hr, if_neg Bool.false_ne_true]
theorem wX (ht : okT t = true) (h : t.kids.length ≠ 0) (hc : o4 t.kids = false) (hr : l5 t = (x, true)) : d4 t = d4 x := by
  have ho : 1 ≤ t.op ∧ t.op ≤ 21 := qJ ht (fun e => h (by rw [e]; rfl))
  obtain ⟨h1, h2⟩ := l9 ht ho hr
  have e : d4 t = y8 (d5 t) x := by
    show y8 (d5 t + 1) t = _
    rw [y8, if_neg h, if_neg (by rw [hc]; decide), hr, if_pos rfl]
  rw [e]
  exact zR _ _ _ h1 omG omG
end
end Vg
