/- What the machine's operations hand back are words. No condition. -/
import Derived.Test.YtjlffejifadkiaaGreatDoorWords
import Derived.Test.YtjlffejifadkiaaGreatDoorTermI
import Derived.Lib.Strings
namespace Vg
open Go Go.Proofs
theorem yM {a : Int} (h0 : 0 ≤ a) (h1 : a < 65536) : (BitVec.ofInt IntKind.i64.bits a).toNat = a.toNat := by
  have hb : IntKind.i64.bits = 64 := rfl
  rw [BitVec.toNat_ofInt, hb]
  have : a % ((2 ^ 64 : Nat) : Int) = a := Int.emod_eq_of_lt h0 omG
  rw [this]
theorem wordOf_word {w : Int} (n : Int) (h : inP w 1 16 = true) : wordP w (z7 w n) = true := by
  have F := wf h
  have h2 := F.s2
  have h3 := F.s3
  unfold z7
  rw [if_pos h]
  have e1 : (BitVec.ofInt IntKind.i64.bits n &&& BitVec.ofInt IntKind.i64.bits (2 ^ w.toNat - 1)).toNat ≤ ((2 : Int) ^ w.toNat - 1).toNat := by
    rw [BitVec.toNat_and, yM (a := 2 ^ w.toNat - 1) omG omG]
    exact Nat.and_le_right
  generalize (BitVec.ofInt IntKind.i64.bits n &&& BitVec.ofInt IntKind.i64.bits (2 ^ w.toNat - 1)).toNat = m at e1
  rw [wrap_id omG omG]
  exact xA h omG omG
theorem yX (k : Nat) : ((2 : Int) ^ k).toNat = 2 ^ k := by
  have : ((2 : Int) ^ k) = ((2 ^ k : Nat) : Int) := by simp
  rw [this]; rfl
theorem xT {w : Int} {a b : Int} (ha : wordP w a = true) (hb : wordP w b = true) (f : Nat → Nat → Nat) (hf : ∀ x y n, x < 2 ^ n → y < 2 ^ n → f x y < 2 ^ n)
    {v : Nat} (hv : v = f (BitVec.ofInt IntKind.i64.bits a).toNat (BitVec.ofInt IntKind.i64.bits b).toNat) : wordP w (IntKind.i64.wrap (v : Nat)) = true := by
  obtain ⟨hw, a0, a1⟩ := k5 ha
  obtain ⟨_, b0, b1⟩ := k5 hb
  have F := wf hw
  have h2 := F.s2
  rw [yM a0 omG, yM b0 omG] at hv
  have e := yX w.toNat
  have := hf a.toNat b.toNat w.toNat omG omG
  subst hv
  generalize f a.toNat b.toNat = m at this
  rw [wrap_id omG omG]
  exact xA hw omG omG
theorem vG {w : Int} (h : inP w 1 16 = true) (b : Bool) : wordP w (eA b) = true := by
  have F := wf h
  have h3 := F.s3
  cases b
  · exact xA h (by decide) (by show (0 : Int) < _; omega)
  · exact xA h (by decide) (by show (1 : Int) < _; omega)
theorem zero_word {w : Int} (h : inP w 1 16 = true) : wordP w 0 = true := vG h false
theorem kU {op w a b : Int} (ho : 3 ≤ op ∧ op ≤ 16) (ha : wordP w a = true) (hb : wordP w b = true) : wordP w (w5 op w a b) = true := by
  obtain ⟨hw, a0, a1⟩ := k5 ha
  obtain ⟨_, b0, b1⟩ := k5 hb
  have F := wf hw
  have h2 := F.s2
  have h3 := F.s3
  unfold w5
  rw [if_pos (by simp [ha, hb])]
  have cases_op : op = 3 ∨ op = 4 ∨ op = 5 ∨ op = 6 ∨ op = 7 ∨ op = 8 ∨ op = 9 ∨ op = 10 ∨ op = 11 ∨ op = 12 ∨ op = 13 ∨ op = 14 ∨ op = 15 ∨ op = 16 := by omega
  have hsh : wordP w (lA op w a b) = true := by
    unfold lA
    by_cases h13 : op = 13
    · rw [if_pos h13]; exact wordOf_word _ hw
    rw [if_neg h13]
    by_cases hwb : w ≤ b
    · rw [if_pos hwb]; exact zero_word hw
    rw [if_neg hwb]
    by_cases h11 : op = 11
    · rw [if_pos h11]; exact wordOf_word _ hw
    rw [if_neg h11]
    have hp : (0 : Int) < 2 ^ min b.toNat IntKind.i64.bits := Int.pow_pos (by decide)
    rw [Int.fdiv_eq_ediv_of_nonneg _ (Int.le_of_lt hp)]
    have e1 := Int.ediv_nonneg a0 (Int.le_of_lt hp)
    have e2 : a / 2 ^ min b.toNat IntKind.i64.bits ≤ a := Int.ediv_le_self _ a0
    exact xA hw e1 omG
  have hdiv : wordP w (if b = 0 then 2 ^ w.toNat - 1 else IntKind.i64.wrap (a.tdiv b)) = true := by
    by_cases hb0 : b = 0
    · rw [if_pos hb0]; exact xA hw omG omG
    · rw [if_neg hb0]
      have e1 : 0 ≤ a.tdiv b := Int.tdiv_nonneg a0 b0
      have e2 : a.tdiv b ≤ a := by
        rw [Int.tdiv_eq_ediv_of_nonneg a0]
        exact Int.ediv_le_self b a0
      rw [wrap_id omG omG]
      exact xA hw e1 omG
  have hrem : wordP w (if b = 0 then a else a.tmod b) = true := by
    by_cases hb0 : b = 0
    · rw [if_pos hb0]; exact ha
    · rw [if_neg hb0]
      have e1 : 0 ≤ a.tmod b := Int.tmod_nonneg b a0
      have e2 : a.tmod b < b := Int.tmod_lt_of_pos a omG
      exact xA hw e1 omG
  have hand := xT ha hb (· &&& ·) (fun x y n hx _ => Nat.lt_of_le_of_lt Nat.and_le_left hx) (v := (BitVec.ofInt IntKind.i64.bits a &&& BitVec.ofInt IntKind.i64.bits b).toNat) (by rw [BitVec.toNat_and])
  have hor := xT ha hb (· ||| ·) (fun x y n hx hy => Nat.or_lt_two_pow hx hy) (v := (BitVec.ofInt IntKind.i64.bits a ||| BitVec.ofInt IntKind.i64.bits b).toNat) (by rw [BitVec.toNat_or])
  have hxor := xT ha hb (· ^^^ ·) (fun x y n hx hy => Nat.xor_lt_two_pow hx hy) (v := (BitVec.ofInt IntKind.i64.bits a ^^^ BitVec.ofInt IntKind.i64.bits b).toNat) (by rw [BitVec.toNat_xor])
  generalize IntKind.i64.wrap (BitVec.ofInt IntKind.i64.bits a &&& BitVec.ofInt IntKind.i64.bits b).toNat = v1 at hand ⊢
  generalize IntKind.i64.wrap (BitVec.ofInt IntKind.i64.bits a ||| BitVec.ofInt IntKind.i64.bits b).toNat = v2 at hor ⊢
  generalize IntKind.i64.wrap (BitVec.ofInt IntKind.i64.bits a ^^^ BitVec.ofInt IntKind.i64.bits b).toNat = v3 at hxor ⊢
  generalize (if b = 0 then 2 ^ w.toNat - 1 else IntKind.i64.wrap (a.tdiv b)) = v4 at hdiv ⊢
  generalize (if b = 0 then a else a.tmod b) = v5 at hrem ⊢
  generalize hv6 : lA op w a b = v6 at hsh ⊢
  have t1 := vG hw (a == b)
  have t2 := vG hw (decide (a < b))
  have t3 := vG hw (decide (bA w a < bA w b))
  have m1 := wordOf_word (IntKind.i64.wrap (a + b)) hw
  have m2 := wordOf_word (IntKind.i64.wrap (a - b)) hw
  have m3 := wordOf_word (IntKind.i64.wrap (a * b)) hw
  rcases cases_op with rfl | rfl | rfl | rfl | rfl | rfl | rfl | rfl | rfl | rfl | rfl | rfl | rfl | rfl <;> first | exact m1 | exact m2 | exact m3 | exact hdiv | exact hrem | exact hand | exact hor | exact hxor | exact hsh | exact t1 | exact t2 | exact t3
theorem qi1 {w a : Int} (ha : wordP w a = true) : wordP w (aA 1 w a) = true := by
  obtain ⟨hw, a0, a1⟩ := k5 ha
  unfold aA
  rw [if_pos ha, if_pos rfl]
  exact xA hw omG omG
/-! ### strings in order -/
theorem bl_eq : ∀ (x y : List UInt8), Op.bytesLess x y = decide (x < y)
  | [], [] => by simp [Op.bytesLess]
  | _ :: _, [] => by simp [Op.bytesLess]
  | [], _ :: _ => by simp [Op.bytesLess]
  | a :: x, b :: y => by
    rw [Op.bytesLess, bl_eq x y]
    simp only [List.cons_lt_cons_iff]
    by_cases h1 : a < b <;> by_cases h2 : a = b <;> by_cases h3 : x < y <;> simp [h1, h2, h3]
def y5 (a b : ByteArray) : Bool := Op.bytesLess a.toList b.toList
theorem dI {a b : ByteArray} : y5 a b = true ↔ a.data.toList < b.data.toList := by
  unfold y5
  rw [bl_eq, Lib.toList_data, Lib.toList_data, decide_eq_true_iff]
theorem ba_ext {a b : ByteArray} (h : a.data.toList = b.data.toList) : a = b := ByteArray.ext (Array.ext' h)
theorem yJ (a : ByteArray) : y5 a a = false := by
  rw [Bool.eq_false_iff]
  intro h
  exact List.lt_irrefl _ (dI.1 h)
theorem dQ {a b c : ByteArray} (h1 : y5 a b = true) (h2 : y5 b c = true) : y5 a c = true := dI.2 (List.lt_trans (dI.1 h1) (dI.1 h2))
theorem qfn {a b : ByteArray} (h : y5 a b = true) : y5 b a = false := by
  rw [Bool.eq_false_iff]
  intro h2
  have := dQ h h2
  rw [yJ] at this
  cases this
theorem eQ {a b : ByteArray} (hn : a ≠ b) (h : y5 a b = false) : y5 b a = true := by
  rw [Bool.eq_false_iff] at h
  refine dI.2 ?_
  have h1 : ¬ a.data.toList < b.data.toList := fun k => h (dI.2 k)
  rcases List.le_iff_lt_or_eq.1 (List.not_lt.1 h1) with h2 | h2
  · exact h2
  · exact absurd (ba_ext h2.symm) hn
/-! ### numbers and terms in order -/
def q4 (a b : Int) : Int := if a < b then -1 else if b < a then 1 else 0
def v7 (a b : ByteArray) : Int := if y5 a b = true then -1 else if y5 b a = true then 1 else 0
theorem uP (a b : Int) : q4 b a = - q4 a b := by
  unfold q4
  split <;> split <;> omega
theorem tP (a b : Int) : q4 a b = -1 ∨ q4 a b = 0 ∨ q4 a b = 1 := by
  unfold q4
  split
  · exact .inl rfl
  · split
    · exact .inr (.inr rfl)
    · exact .inr (.inl rfl)
theorem qei (a b : ByteArray) : v7 b a = - v7 a b := by
  unfold v7
  by_cases h1 : y5 a b = true
  · rw [if_pos h1, if_neg (by rw [qfn h1]; decide), if_pos h1]; rfl
  · by_cases h2 : y5 b a = true
    · rw [if_pos h2, if_neg h1, if_pos h2]
    · rw [if_neg h1, if_neg h2, if_neg h2, if_neg h1]; rfl
theorem scmp_r (a b : ByteArray) : v7 a b = -1 ∨ v7 a b = 0 ∨ v7 a b = 1 := by
  unfold v7
  split
  · exact .inl rfl
  · split
    · exact .inr (.inr rfl)
    · exact .inr (.inl rfl)
theorem qeh (a : ByteArray) : v7 a a = 0 := by
  unfold v7
  rw [if_neg (by rw [yJ]; decide), if_neg (by rw [yJ]; decide)]
theorem scmp_lt {a b : ByteArray} (h : y5 a b = true) : v7 a b = -1 := by unfold v7; rw [if_pos h]
theorem scmp_gt {a b : ByteArray} (hn : a ≠ b) (h : y5 a b = false) : v7 a b = 1 := by
  unfold v7
  rw [if_neg (by rw [h]; decide), if_pos (eQ hn h)]
mutual
def cmpT : V.Term → V.Term → Int
  | ⟨o, w, n, nm, ks⟩, b => if q4 o b.op ≠ 0 then q4 o b.op else if q4 w b.w ≠ 0 then q4 w b.w else if q4 n b.n ≠ 0 then q4 n b.n else if v7 nm b.name ≠ 0 then v7 nm b.name else y8 ks b.kids
def y8 : List V.Term → List V.Term → Int
  | [], [] => 0
  | [], _ :: _ => -1
  | _ :: _, [] => 1
  | a :: xs, b :: ys => if cmpT a b ≠ 0 then cmpT a b else y8 xs ys
end
theorem sH (a b : V.Term) : cmpT a b = if q4 a.op b.op ≠ 0 then q4 a.op b.op else if q4 a.w b.w ≠ 0 then q4 a.w b.w else if q4 a.n b.n ≠ 0 then q4 a.n b.n else if v7 a.name b.name ≠ 0 then v7 a.name b.name else y8 a.kids b.kids := by
  cases a; rw [cmpT]
mutual
theorem qcx : ∀ (a b : V.Term), cmpT b a = - cmpT a b
  | ⟨o, w, n, nm, ks⟩, b => by
    rw [sH b, cmpT]
    simp only
    rw [uP o, uP w, uP n, qei nm, qcv ks b.kids]
    simp only [ne_eq, Int.neg_eq_zero]
    split
    · rfl
    · split
      · rfl
      · split
        · rfl
        · split <;> rfl
theorem qcv : ∀ (a b : List V.Term), y8 b a = - y8 a b
  | [], [] => by simp only [y8]; rfl
  | [], _ :: _ => by simp only [y8]; rfl
  | _ :: _, [] => by simp only [y8]
  | a :: xs, b :: ys => by
    simp only [y8]
    rw [qcx a b, qcv xs ys]
    simp only [ne_eq, Int.neg_eq_zero]
    split <;> rfl
end
mutual
theorem qcw : ∀ (a b : V.Term), cmpT a b = -1 ∨ cmpT a b = 0 ∨ cmpT a b = 1
  | ⟨o, w, n, nm, ks⟩, b => by
    rw [cmpT]
    split
    · exact tP _ _
    · split
      · exact tP _ _
      · split
        · exact tP _ _
        · split
          · exact scmp_r _ _
          · exact qcu _ _
theorem qcu : ∀ (a b : List V.Term), y8 a b = -1 ∨ y8 a b = 0 ∨ y8 a b = 1
  | [], [] => .inr (.inl (by simp only [y8]))
  | [], _ :: _ => .inl (by simp only [y8])
  | _ :: _, [] => .inr (.inr (by simp only [y8]))
  | a :: xs, b :: ys => by
    simp only [y8]
    split
    · exact qcw a b
    · exact qcu xs ys
end
/-! ### kid by kid -/
structure CmpI (a b : V.Term) (i : Nat) : Prop where
  la : i ≤ a.kids.length
  lb : i ≤ b.kids.length
  eq : cmpT a b = y8 (a.kids.drop i) (b.kids.drop i)
theorem eJ {l : List V.Term} {i : Nat} (h : (i : Int) < l.length) : l.drop i = kAt l i :: l.drop (i + 1) := by
  have hi : i < l.length := by omega
  rw [List.drop_eq_getElem_cons hi]
  congr 1
  rw [kAt, List.getD_eq_getElem?_getD, List.getElem?_eq_getElem hi]; rfl
section
variable {a b : V.Term} {i : Nat}
theorem cmpI_0 (h1 : ¬ q4 a.op b.op ≠ 0) (h2 : ¬ q4 a.w b.w ≠ 0) (h3 : ¬ q4 a.n b.n ≠ 0) (h4 : ¬ v7 a.name b.name ≠ 0) : CmpI a b 0 := by
  refine ⟨Nat.zero_le _, Nat.zero_le _, ?_⟩
  rw [sH, if_neg h1, if_neg h2, if_neg h3, if_neg h4]; rfl
theorem cmpI_s (h : CmpI a b i) (h1 : (i : Int) < a.kids.length) (h2 : (i : Int) < b.kids.length) (h0 : ¬ cmpT (kAt a.kids i) (kAt b.kids i) ≠ 0) : CmpI a b (i + 1) := by
  refine ⟨by omega, by omega, ?_⟩
  rw [h.eq, eJ h1, eJ h2, y8, if_neg h0]
theorem cmpI_f (h : CmpI a b i) (h1 : (i : Int) < a.kids.length) (h2 : (i : Int) < b.kids.length) (h0 : cmpT (kAt a.kids i) (kAt b.kids i) ≠ 0) : cmpT a b = cmpT (kAt a.kids i) (kAt b.kids i) := by
  rw [h.eq, eJ h1, eJ h2, y8, if_pos h0]
theorem qcy (h : CmpI a b i) (h1 : ¬ ((i : Int) < a.kids.length ∧ (i : Int) < b.kids.length)) : cmpT a b = q4 a.kids.length b.kids.length := by
  have e1 := h.la
  have e2 := h.lb
  rw [h.eq]
  by_cases ha : (i : Int) < a.kids.length
  · have hb : b.kids.drop i = [] := List.drop_of_length_le omG
    rw [eJ ha, hb, y8]
    unfold q4
    rw [if_neg omG, if_pos omG]
  · have ha' : a.kids.drop i = [] := List.drop_of_length_le omG
    rw [ha']
    by_cases hb : (i : Int) < b.kids.length
    · rw [eJ hb, y8]
      unfold q4
      rw [if_pos omG]
    · have hb' : b.kids.drop i = [] := List.drop_of_length_le omG
      rw [hb', y8]
      unfold q4
      rw [if_neg omG, if_neg omG]
end
theorem cmp_op {a b : V.Term} (h : q4 a.op b.op ≠ 0) : cmpT a b = q4 a.op b.op := by rw [sH, if_pos h]
theorem cmp_w {a b : V.Term} (h1 : ¬ q4 a.op b.op ≠ 0) (h : q4 a.w b.w ≠ 0) : cmpT a b = q4 a.w b.w := by rw [sH, if_neg h1, if_pos h]
theorem cmp_n {a b : V.Term} (h1 : ¬ q4 a.op b.op ≠ 0) (h2 : ¬ q4 a.w b.w ≠ 0) (h : q4 a.n b.n ≠ 0) : cmpT a b = q4 a.n b.n := by rw [sH, if_neg h1, if_neg h2, if_pos h]
theorem cmp_nm {a b : V.Term} (h1 : ¬ q4 a.op b.op ≠ 0) (h2 : ¬ q4 a.w b.w ≠ 0) (h3 : ¬ q4 a.n b.n ≠ 0) (h : v7 a.name b.name ≠ 0) : cmpT a b = v7 a.name b.name := by rw [sH, if_neg h1, if_neg h2, if_neg h3, if_pos h]
end Vg
namespace Vg
open Go Go.Proofs
abbrev cT (w n : Int) : V.Term := ⟨0, w, n, ByteArray.empty, []⟩
abbrev oT (op w n : Int) (ks : List V.Term) : V.Term := ⟨op, w, n, ByteArray.empty, ks⟩
/-! ### what is known of a good term -/
theorem qE (t : V.Term) : okT t = (hC t.op t.w t.n t.name t.kids && (!decide (t.op = 22) || isNameP t.name) && okTs t.kids) := by cases t; rw [okT]
theorem sD : ∀ {ks : List V.Term} {i : Nat}, okTs ks = true → i < ks.length → okT (kAt ks i) = true
  | t :: ts, 0, h, _ => by rw [okTs, Bool.and_eq_true] at h; exact h.1
  | t :: ts, i + 1, h, hi => by rw [okTs, Bool.and_eq_true] at h; exact sD (ks := ts) (i := i) h.2 (by simpa using hi)
theorem r8 {t : V.Term} (h : okT t = true) : NodeOk t.op t.w t.n t.name t.kids := by
  rw [qE, Bool.and_eq_true, Bool.and_eq_true] at h
  exact oB.1 h.1.1
theorem eR {t : V.Term} (h : okT t = true) : okTs t.kids = true := by
  rw [qE, Bool.and_eq_true] at h
  exact h.2
theorem iI {t : V.Term} {i : Nat} (h : okT t = true) (hi : i < t.kids.length) : okT (kAt t.kids i) = true := sD (eR h) hi
theorem wM {op w n : Int} {ks : List V.Term} (h : NodeOk op w n ByteArray.empty ks) (ho : op ≠ 22) (hk : okTs ks = true) : okT (oT op w n ks) = true := by
  rw [qE, Bool.and_eq_true, Bool.and_eq_true]
  exact ⟨⟨oB.2 h, by simp [ho]⟩, hk⟩
theorem inP_iff {n lo hi : Int} : inP n lo hi = true ↔ lo ≤ n ∧ n ≤ hi := by simp [inP]
theorem k8 {t : V.Term} (h : okT t = true) : 1 ≤ t.w ∧ t.w ≤ 16 := inP_iff.1 (r8 h).width
theorem p3 {t : V.Term} (h : okT t = true) : inP t.w 1 16 = true := (r8 h).width
theorem xM {t : V.Term} (h : okT t = true) (h1 : t.op ≠ 0) (h2 : t.op ≠ 19) : t.n = 0 := (r8 h).num h1 h2
theorem bK {t : V.Term} (h : okT t = true) (h1 : t.op ≠ 22) : t.name = ByteArray.empty := (r8 h).nam h1
theorem vM {t : V.Term} (h : okT t = true) : 0 ≤ t.op ∧ t.op ≤ 22 := by
  have := (r8 h).len
  unfold k9 at this
  repeat' split at this
  all_goals omega
theorem hH {t : V.Term} (h : okT t = true) (hk : t.kids ≠ []) : 1 ≤ t.op ∧ t.op ≤ 21 := by
  have := (r8 h).len
  have h1 : 0 < t.kids.length := by
    cases e : t.kids with
    | nil => exact absurd e hk
    | cons _ _ => simp
  unfold k9 at this
  repeat' split at this
  all_goals omega
theorem ks0 {l : List V.Term} (h : (l.length : Int) = 0) : l = [] := by
  cases l with
  | nil => rfl
  | cons _ _ => simp at h; omega
theorem ks1 {l : List V.Term} (h : (l.length : Int) = 1) : l = [kAt l 0] := by
  match l, h with
  | [a], _ => rfl
  | [], h => simp at h
  | _ :: _ :: _, h => simp at h; omega
theorem ks2 {l : List V.Term} (h : (l.length : Int) = 2) : l = [kAt l 0, kAt l 1] := by
  match l, h with
  | [a, b], _ => rfl
  | [], h => simp at h
  | [_], h => simp at h
  | _ :: _ :: _ :: _, h => simp at h; omega
theorem ks3 {l : List V.Term} (h : (l.length : Int) = 3) : l = [kAt l 0, kAt l 1, kAt l 2] := by
  match l, h with
  | [a, b, c], _ => rfl
  | [], h => simp at h
  | [_], h => simp at h
  | [_, _], h => simp at h
  | _ :: _ :: _ :: _ :: _, h => simp at h; omega
abbrev k0 (t : V.Term) : V.Term := kAt t.kids 0
abbrev k1 (t : V.Term) : V.Term := kAt t.kids 1
abbrev k2 (t : V.Term) : V.Term := kAt t.kids 2
section
variable {t : V.Term}
theorem jC (h : okT t = true) (ho : t.op = 1 ∨ t.op = 2 ∨ t.op = 19 ∨ t.op = 20 ∨ t.op = 21) : (t.kids.length : Int) = 1 := by
  rw [(r8 h).len]; unfold k9; rw [if_neg omG, if_pos ho]
theorem dB (h : okT t = true) (ho : (3 ≤ t.op ∧ t.op ≤ 16) ∨ t.op = 18) : (t.kids.length : Int) = 2 := by
  rw [(r8 h).len]; unfold k9; rw [if_neg omG, if_neg omG, if_pos ho]
theorem rA (h : okT t = true) (ho : t.op = 17) : (t.kids.length : Int) = 3 := by
  rw [(r8 h).len]; unfold k9; rw [if_neg omG, if_neg omG, if_neg omG, if_pos ho]
theorem len_c (h : okT t = true) (ho : t.op = 0) : t.kids = [] := by
  apply ks0
  rw [(r8 h).len]; unfold k9; rw [if_pos omG]
theorem qii (h : okT t = true) (ho : t.op = 0) : t = cT t.w t.n := by
  have e1 := len_c h ho
  have e2 := bK h omG
  cases t
  simp only at ho e1 e2
  subst ho e1 e2
  rfl
theorem xE (h : okT t = true) (ho : t.op = 0) : wordP t.w t.n = true := (r8 h).const ho
theorem nH (h : okT t = true) (ho : t.op = 1 ∨ t.op = 2) : (k0 t).w = t.w := by
  have := (r8 h).fit
  unfold x8 at this
  rw [if_neg omG, if_pos ho] at this
  simpa using this
theorem fit_b (h : okT t = true) (ho : 3 ≤ t.op ∧ t.op ≤ 13) : (k0 t).w = t.w ∧ (k1 t).w = t.w := by
  have := (r8 h).fit
  unfold x8 at this
  rw [if_neg omG, if_neg omG, if_pos ho] at this
  simpa using this
theorem oH (h : okT t = true) (ho : 14 ≤ t.op ∧ t.op ≤ 16) : (k0 t).w = (k1 t).w ∧ t.w = 1 := by
  have := (r8 h).fit
  unfold x8 at this
  rw [if_neg omG, if_neg omG, if_neg omG, if_pos ho] at this
  simpa using this
theorem fO (h : okT t = true) (ho : t.op = 17) : (k0 t).w = 1 ∧ (k1 t).w = t.w ∧ (k2 t).w = t.w := by
  have := (r8 h).fit
  unfold x8 at this
  rw [if_neg omG, if_neg omG, if_neg omG, if_neg omG, if_pos ho] at this
  simp only [Bool.and_eq_true, decide_eq_true_eq] at this
  exact ⟨this.1.1, this.1.2, this.2⟩
theorem eO (h : okT t = true) (ho : t.op = 18) : (k0 t).w + (k1 t).w = t.w := by
  have := (r8 h).fit
  unfold x8 at this
  rw [if_neg omG, if_neg omG, if_neg omG, if_neg omG, if_neg omG, if_pos ho] at this
  simpa using this
theorem nC (h : okT t = true) (ho : t.op = 19) : 0 ≤ t.n ∧ t.n ≤ (k0 t).w - t.w := by
  have := (r8 h).fit
  unfold x8 at this
  rw [if_neg omG, if_neg omG, if_neg omG, if_neg omG, if_neg omG, if_neg omG, if_pos ho] at this
  simpa using this
theorem bT (h : okT t = true) (ho : t.op = 20 ∨ t.op = 21) : (k0 t).w ≤ t.w := by
  have := (r8 h).fit
  unfold x8 at this
  rw [if_neg omG, if_neg omG, if_neg omG, if_neg omG, if_neg omG, if_neg omG, if_neg omG] at this
  simpa using this
theorem ok0 (h : okT t = true) (ho : 1 ≤ t.op ∧ t.op ≤ 21) : okT (k0 t) = true := by
  apply iI h
  have h1 := jC h
  have h2 := dB h
  have h3 := rA h
  omega
theorem u1 (h : okT t = true) (ho : (3 ≤ t.op ∧ t.op ≤ 18)) : okT (k1 t) = true := by
  apply iI h
  have h2 := dB h
  have h3 := rA h
  omega
theorem ok2 (h : okT t = true) (ho : t.op = 17) : okT (k2 t) = true := by
  apply iI h
  have h3 := rA h
  omega
end
theorem eG {op w n : Int} {a : V.Term} (ha : okT a = true) (hw : 1 ≤ w ∧ w ≤ 16) (ho : op = 1 ∨ op = 2 ∨ op = 19 ∨ op = 20 ∨ op = 21) (hn : op ≠ 19 → n = 0) (hf : x8 op w n [a] = true) : okT (oT op w n [a]) = true := by
  refine wM ⟨inP_iff.2 hw, ?_, ?_, hf, fun e => by omega, fun _ e => hn e, fun _ => rfl⟩ omG (by simp [okTs, ha])
  · unfold k9; rw [if_neg omG, if_pos ho]; rfl
  · simp [p3 ha]
theorem mk_b {op w : Int} {a b : V.Term} (ha : okT a = true) (hb : okT b = true) (hw : 1 ≤ w ∧ w ≤ 16) (ho : (3 ≤ op ∧ op ≤ 16) ∨ op = 18) (hf : x8 op w 0 [a, b] = true) : okT (oT op w 0 [a, b]) = true := by
  refine wM ⟨inP_iff.2 hw, ?_, ?_, hf, fun e => by omega, fun _ _ => rfl, fun _ => rfl⟩ omG (by simp [okTs, ha, hb])
  · unfold k9; rw [if_neg omG, if_neg omG, if_pos ho]; rfl
  · simp [p3 ha, p3 hb]
theorem mk_i {w : Int} {a b c : V.Term} (ha : okT a = true) (hb : okT b = true) (hc : okT c = true) (hw : 1 ≤ w ∧ w ≤ 16) (hf : x8 17 w 0 [a, b, c] = true) : okT (oT 17 w 0 [a, b, c]) = true := by
  refine wM ⟨inP_iff.2 hw, ?_, ?_, hf, fun e => by omega, fun _ _ => rfl, fun _ => rfl⟩ omG (by simp [okTs, ha, hb, hc])
  · rfl
  · simp [p3 ha, p3 hb, p3 hc]
theorem pA {w n : Int} (h : wordP w n = true) : okT (cT w n) = true := by
  refine wM ⟨(k5 h).1, rfl, rfl, rfl, fun _ => h, fun e => absurd rfl e, fun _ => rfl⟩ (by decide) rfl
/-! ### values -/
def mD (w a low n : Int) : Int := if wordP w a = true ∧ 0 ≤ low ∧ 1 ≤ n ∧ n ≤ w - low then z7 n (Int.fdiv a (2 ^ min low.toNat IntKind.i64.bits)) else -1
def lC (w a v b : Int) : Int := if wordP w a = true ∧ wordP v b = true ∧ w + v ≤ 16 then a * 2 ^ v.toNat + b else -1
def jB (w a n : Int) (s : Bool) : Int := if wordP w a = true ∧ w ≤ n ∧ n ≤ 16 then (if s = true then z7 n (bA w a) else a) else -1
abbrev xAt (x : List Int) (i : Nat) : Int := x.getD i K.ints.dflt
def o5 (t : V.Term) (x : List Int) : Int :=
  if t.op = 1 ∨ t.op = 2 then aA t.op (k0 t).w (xAt x 0)
  else if 3 ≤ t.op ∧ t.op ≤ 16 then w5 t.op (k0 t).w (xAt x 0) (xAt x 1)
  else if t.op = 17 then (if xAt x 0 = 1 then xAt x 1 else xAt x 2)
  else if t.op = 18 then lC (k0 t).w (xAt x 0) (k1 t).w (xAt x 1)
  else if t.op = 19 then mD (k0 t).w (xAt x 0) t.n t.w
  else jB (k0 t).w (xAt x 0) t.w (t.op == 21)
theorem qi2 {op w a : Int} (ho : op = 1 ∨ op = 2) (ha : wordP w a = true) : wordP w (aA op w a) = true := by
  rcases ho with rfl | rfl
  · exact qi1 ha
  · have := wordOf_word (IntKind.i64.wrap (0 - a)) (k5 ha).1
    unfold aA
    rw [if_pos ha, if_neg (by decide), if_pos rfl]
    exact this
theorem qi3 {op w a b : Int} (ho : 14 ≤ op ∧ op ≤ 16) (ha : wordP w a = true) (hb : wordP w b = true) : wordP 1 (w5 op w a b) = true := by
  have c : op = 14 ∨ op = 15 ∨ op = 16 := by omega
  have e : (wordP w a && wordP w b) = true := by rw [ha, hb]; rfl
  rcases c with rfl | rfl | rfl
  · have : w5 14 w a b = eA (a == b) := by unfold w5; rw [if_pos e]; rfl
    rw [this]; exact vG (by decide) _
  · have : w5 15 w a b = eA (decide (a < b)) := by unfold w5; rw [if_pos e]; rfl
    rw [this]; exact vG (by decide) _
  · have : w5 16 w a b = eA (decide (bA w a < bA w b)) := by unfold w5; rw [if_pos e]; rfl
    rw [this]; exact vG (by decide) _
theorem join_w {w a v b : Int} (ha : wordP w a = true) (hb : wordP v b = true) (hw : w + v ≤ 16) : wordP (w + v) (lC w a v b) = true := by
  unfold lC
  rw [if_pos ⟨ha, hb, hw⟩]
  obtain ⟨h1, a0, a1⟩ := k5 ha
  obtain ⟨h2, b0, b1⟩ := k5 hb
  rw [inP_iff] at h1 h2
  have hp : (0 : Int) < 2 ^ v.toNat := Int.pow_pos (by decide)
  have e : (2 : Int) ^ (w + v).toNat = 2 ^ w.toNat * 2 ^ v.toNat := by
    rw [← Int.pow_add]
    congr 1
    omega
  have h3 : 0 ≤ a * 2 ^ v.toNat := Int.mul_nonneg a0 (Int.le_of_lt hp)
  have h4 : (a + 1) * 2 ^ v.toNat ≤ 2 ^ w.toNat * 2 ^ v.toNat := Int.mul_le_mul_of_nonneg_right omG (Int.le_of_lt hp)
  rw [Int.add_mul, Int.one_mul] at h4
  refine xA (inP_iff.2 ⟨by omega, by omega⟩) omG ?_
  rw [e]
  omega
theorem widen_w {w a n : Int} {s : Bool} (ha : wordP w a = true) (h1 : w ≤ n) (h2 : n ≤ 16) : wordP n (jB w a n s) = true := by
  unfold jB
  rw [if_pos ⟨ha, h1, h2⟩]
  obtain ⟨hw, a0, a1⟩ := k5 ha
  rw [inP_iff] at hw
  have hn : inP n 1 16 = true := inP_iff.2 ⟨by omega, by omega⟩
  split
  · exact wordOf_word _ hn
  · refine xA hn a0 ?_
    have e : n.toNat = w.toNat + (n - w).toNat := by omega
    have hp : (1 : Int) ≤ 2 ^ (n - w).toNat := by have : (0 : Int) < 2 ^ (n - w).toNat := Int.pow_pos (by decide); omega
    have hq : (0 : Int) ≤ 2 ^ w.toNat := Int.le_of_lt (Int.pow_pos (by decide))
    have := Int.mul_le_mul_of_nonneg_left hp hq
    rw [e, Int.pow_add]
    omega
theorem cut_w {w a low n : Int} (ha : wordP w a = true) (h0 : 0 ≤ low) (h1 : 1 ≤ n) (h2 : n ≤ w - low) : wordP n (mD w a low n) = true := by
  unfold mD
  rw [if_pos ⟨ha, h0, h1, h2⟩]
  have hw := (k5 ha).1
  rw [inP_iff] at hw
  exact wordOf_word _ (inP_iff.2 ⟨h1, by omega⟩)
theorem qdn {t : V.Term} {x : List Int} (h : okT t = true) (ho : 1 ≤ t.op ∧ t.op ≤ 21) (hx : ∀ i, i < t.kids.length → wordP (kAt t.kids i).w (xAt x i) = true) : wordP t.w (o5 t x) = true := by
  have hw := k8 h
  have h0 : wordP (k0 t).w (xAt x 0) = true := hx 0 (by have h1 := jC h; have h2 := dB h; have h3 := rA h; omega)
  unfold o5
  by_cases c1 : t.op = 1 ∨ t.op = 2
  · rw [if_pos c1]
    have e := nH h c1
    rw [e] at h0 ⊢
    exact qi2 c1 h0
  rw [if_neg c1]
  by_cases c2 : 3 ≤ t.op ∧ t.op ≤ 16
  · rw [if_pos c2]
    have h1 : wordP (k1 t).w (xAt x 1) = true := hx 1 (by have h2 := dB h; omega)
    by_cases c3 : t.op ≤ 13
    · have e := fit_b h ⟨c2.1, c3⟩
      rw [e.1] at h0 ⊢
      rw [e.2] at h1
      exact kU c2 h0 h1
    · have e := oH h ⟨by omega, c2.2⟩
      rw [e.2]
      rw [← e.1] at h1
      exact qi3 ⟨by omega, c2.2⟩ h0 h1
  rw [if_neg c2]
  by_cases c3 : t.op = 17
  · rw [if_pos c3]
    have e := fO h c3
    have h1 : wordP (k1 t).w (xAt x 1) = true := hx 1 (by have h2 := rA h; omega)
    have h2 : wordP (k2 t).w (xAt x 2) = true := hx 2 (by have h2 := rA h; omega)
    rw [e.2.1] at h1
    rw [e.2.2] at h2
    split
    · exact h1
    · exact h2
  rw [if_neg c3]
  by_cases c4 : t.op = 18
  · rw [if_pos c4]
    have h1 : wordP (k1 t).w (xAt x 1) = true := hx 1 (by have h2 := dB h; omega)
    have e := eO h c4
    have := join_w h0 h1 omG
    rwa [e] at this
  rw [if_neg c4]
  by_cases c5 : t.op = 19
  · rw [if_pos c5]
    have e := nC h c5
    exact cut_w h0 e.1 hw.1 omG
  rw [if_neg c5]
  exact widen_w h0 (bT h omG) hw.2
/-! ### the rules -/
def d4 (op : Int) : Prop := op = 3 ∨ op = 5 ∨ op = 8 ∨ op = 9 ∨ op = 10 ∨ op = 14
instance (op : Int) : Decidable (d4 op) := by unfold d4; infer_instance
abbrev onW (w : Int) : Int := 2 ^ w.toNat - 1
def oE (t : V.Term) : V.Term × Bool := if (k0 t).op = t.op then (k0 (k0 t), false) else (t, false)
def jF (t : V.Term) : V.Term × Bool :=
  if (k0 t).op = 0 ∧ (k0 t).n = 1 then (k1 t, false)
  else if (k0 t).op = 0 then (k2 t, false)
  else if cmpT (k1 t) (k2 t) = 0 then (k1 t, false)
  else if (k0 t).op = 1 then (oT 17 t.w 0 [k0 (k0 t), k2 t, k1 t], true)
  else if t.w = 1 ∧ ((k1 t).op = 0 ∧ (k1 t).n = 1) ∧ ((k2 t).op = 0 ∧ (k2 t).n = 0) then (k0 t, false)
  else if t.w = 1 ∧ ((k1 t).op = 0 ∧ (k1 t).n = 0) ∧ ((k2 t).op = 0 ∧ (k2 t).n = 1) then (oT 1 1 0 [k0 t], true)
  else (t, false)
def kF (t : V.Term) : V.Term × Bool :=
  if t.n = 0 ∧ t.w = (k0 t).w then (k0 t, false)
  else if (k0 t).op = 19 then (oT 19 t.w (t.n + (k0 t).n) [k0 (k0 t)], true)
  else if (k0 t).op = 18 ∧ t.n + t.w ≤ (k1 (k0 t)).w then (oT 19 t.w t.n [k1 (k0 t)], true)
  else if (k0 t).op = 18 ∧ (k1 (k0 t)).w ≤ t.n then (oT 19 t.w (t.n - (k1 (k0 t)).w) [k0 (k0 t)], true)
  else if ((k0 t).op = 20 ∨ (k0 t).op = 21) ∧ t.n + t.w ≤ (k0 (k0 t)).w then (oT 19 t.w t.n [k0 (k0 t)], true)
  else (t, false)
def gF (t : V.Term) : V.Term × Bool :=
  if t.w = (k0 t).w then (k0 t, false)
  else if (k0 t).op = t.op then (oT t.op t.w 0 [k0 (k0 t)], true)
  else (t, false)
def iF (t : V.Term) : V.Term × Bool :=
  if (k0 t).op = 19 ∧ (k1 t).op = 19 ∧ (k0 t).n = (k1 t).n + (k1 t).w ∧ cmpT (k0 (k0 t)) (k0 (k1 t)) = 0 then (oT 19 t.w (k1 t).n [k0 (k1 t)], true)
  else (t, false)
def p4 (t : V.Term) : V.Term × Bool :=
  if d4 t.op ∧ cmpT (k0 t) (k1 t) = 1 then (oT t.op t.w 0 [k1 t, k0 t], true)
  else if (k0 t).op = 0 ∧ ((t.op = 3 ∧ (k0 t).n = 0) ∨ (t.op = 5 ∧ (k0 t).n = 1) ∨ (t.op = 8 ∧ (k0 t).n = onW (k0 t).w) ∨ (t.op = 9 ∧ (k0 t).n = 0) ∨ (t.op = 10 ∧ (k0 t).n = 0) ∨ (t.op = 14 ∧ (k0 t).w = 1 ∧ (k0 t).n = 1)) then (k1 t, false)
  else if (k0 t).op = 0 ∧ ((t.op = 5 ∧ (k0 t).n = 0) ∨ (t.op = 8 ∧ (k0 t).n = 0)) then (cT t.w 0, false)
  else if (k0 t).op = 0 ∧ t.op = 9 ∧ (k0 t).n = onW (k0 t).w then (cT t.w (onW (k0 t).w), false)
  else if (k0 t).op = 0 ∧ ((t.op = 10 ∧ (k0 t).n = onW (k0 t).w) ∨ (t.op = 14 ∧ (k0 t).w = 1 ∧ (k0 t).n = 0)) then (oT 1 t.w 0 [k1 t], true)
  else if (k1 t).op = 0 ∧ (k1 t).n = 0 ∧ (t.op = 4 ∨ t.op = 11 ∨ t.op = 12 ∨ t.op = 13) then (k0 t, false)
  else if (k1 t).op = 0 ∧ (k1 t).n = 0 ∧ t.op = 15 then (cT 1 0, false)
  else if cmpT (k0 t) (k1 t) = 0 ∧ (t.op = 8 ∨ t.op = 9) then (k0 t, false)
  else if cmpT (k0 t) (k1 t) = 0 ∧ (t.op = 4 ∨ t.op = 10 ∨ t.op = 15 ∨ t.op = 16) then (cT t.w 0, false)
  else if cmpT (k0 t) (k1 t) = 0 ∧ t.op = 14 then (cT 1 1, false)
  else if (d4 t.op ∧ t.op ≠ 14) ∧ (k0 t).op = 0 ∧ (k1 t).op = t.op ∧ (k0 (k1 t)).op = 0 then (oT t.op t.w 0 [cT t.w (w5 t.op t.w (k0 t).n (k0 (k1 t)).n), k1 (k1 t)], true)
  else (t, false)
def z4 (t : V.Term) : V.Term × Bool :=
  if t.op = 1 ∨ t.op = 2 then oE t
  else if t.op = 17 then jF t
  else if t.op = 19 then kF t
  else if t.op = 20 ∨ t.op = 21 then gF t
  else if t.op = 18 then iF t
  else p4 t
def f2 (t : V.Term) : Nat := 2 * sizeT t + (if d4 t.op ∧ cmpT (k0 t) (k1 t) = 1 then 1 else 0)
theorem xD {x t : V.Term} (h : sizeT x < sizeT t) : f2 x < f2 t := by
  unfold f2
  split <;> split <;> omega
theorem xG (t : V.Term) : sizeT t = 1 + i6 t.kids := by cases t; rw [sizeT]
section
variable {t : V.Term}
theorem mE (h : okT t = true) (ho : t.op = 1 ∨ t.op = 2 ∨ t.op = 19 ∨ t.op = 20 ∨ t.op = 21) : sizeT t = 1 + sizeT (k0 t) := by
  rw [xG, ks1 (jC h ho)]; simp [i6]
theorem yG (h : okT t = true) (ho : (3 ≤ t.op ∧ t.op ≤ 16) ∨ t.op = 18) : sizeT t = 1 + (sizeT (k0 t) + sizeT (k1 t)) := by
  rw [xG, ks2 (dB h ho)]; simp [i6]
theorem sz_i (h : okT t = true) (ho : t.op = 17) : sizeT t = 1 + (sizeT (k0 t) + (sizeT (k1 t) + sizeT (k2 t))) := by
  rw [xG, ks3 (rA h ho)]; simp [i6]
end
theorem eF {op w n : Int} {a : V.Term} : sizeT (oT op w n [a]) = 1 + sizeT a := by simp [sizeT, i6]
theorem sz_2 {op w n : Int} {a b : V.Term} : sizeT (oT op w n [a, b]) = 1 + (sizeT a + sizeT b) := by simp [sizeT, i6]
theorem sz_3 {op w n : Int} {a b c : V.Term} : sizeT (oT op w n [a, b, c]) = 1 + (sizeT a + (sizeT b + sizeT c)) := by simp [sizeT, i6]
theorem sz_c {w n : Int} : sizeT (cT w n) = 1 := by simp [sizeT, i6]
theorem z5 {α : Type} {a x : α} {P : Prop} (h : (a, false) = (x, true)) : P := by simp at h
theorem w8 {α : Type} {a x : α} (h : (a, true) = (x, true)) : x = a := by simp at h; exact h.symm
theorem fit_bS {op w : Int} {a b : V.Term} (h : x8 op w 0 [a, b] = true) (ho : 3 ≤ op ∧ op ≤ 13 ∨ op = 14) : x8 op w 0 [b, a] = true := by
  unfold x8 at h ⊢
  rw [if_neg omG, if_neg omG] at h ⊢
  rcases ho with ho | ho
  · rw [if_pos ho] at h ⊢
    rw [Bool.and_comm]; exact h
  · rw [if_neg omG, if_pos omG] at h ⊢
    simp only [Bool.and_eq_true, decide_eq_true_eq] at h ⊢
    exact ⟨h.1.symm, h.2⟩
theorem k4 {α : Type} {p : Prop} [Decidable p] {a b x : α} (h : (if p then a else b) = x) : (p ∧ a = x) ∨ (¬ p ∧ b = x) := by
  by_cases hp : p
  · rw [if_pos hp] at h; exact .inl ⟨hp, h⟩
  · rw [if_neg hp] at h; exact .inr ⟨hp, h⟩
theorem a8 {t x : V.Term} (h : okT t = true) (ho : 1 ≤ t.op ∧ t.op ≤ 21) (hr : z4 t = (x, true)) : okT x = true ∧ f2 x < f2 t := by
  have hw := k8 h
  have a0 := ok0 h ho
  unfold z4 at hr
  by_cases c1 : t.op = 1 ∨ t.op = 2
  · rw [if_pos c1] at hr
    unfold oE at hr
    rcases k4 hr with ⟨_, hr⟩ | ⟨_, hr⟩ <;> exact z5 hr
  rw [if_neg c1] at hr
  by_cases c2 : t.op = 17
  · rw [if_pos c2] at hr
    have a1 := u1 h omG
    have a2 := ok2 h omG
    have e := fO h c2
    have es := sz_i h c2
    unfold jF at hr
    rcases k4 hr with ⟨c, hr⟩ | ⟨c, hr⟩
    · exact z5 hr
    rcases k4 hr with ⟨c, hr⟩ | ⟨c, hr⟩
    · exact z5 hr
    rcases k4 hr with ⟨c, hr⟩ | ⟨c, hr⟩
    · exact z5 hr
    rcases k4 hr with ⟨c, hr⟩ | ⟨c, hr⟩
    · obtain rfl := w8 hr
      have f := nH a0 (.inl c)
      have s := mE a0 (.inl c)
      refine ⟨mk_i (ok0 a0 omG) a2 a1 hw ?_, xD ?_⟩
      · show (decide ((k0 (k0 t)).w = 1) && decide ((k2 t).w = t.w) && decide ((k1 t).w = t.w)) = true
        simp only [Bool.and_eq_true, decide_eq_true_eq]
        exact ⟨⟨by omega, e.2.2⟩, e.2.1⟩
      · rw [sz_3]; omega
    rcases k4 hr with ⟨c, hr⟩ | ⟨c, hr⟩
    · exact z5 hr
    rcases k4 hr with ⟨c, hr⟩ | ⟨c, hr⟩
    · obtain rfl := w8 hr
      refine ⟨eG a0 omG omG (fun _ => rfl) ?_, xD ?_⟩
      · show decide ((k0 t).w = 1) = true
        exact decide_eq_true e.1
      · rw [eF]
        have := fF (k1 t)
        omega
    · exact z5 hr
  rw [if_neg c2] at hr
  by_cases c3 : t.op = 19
  · rw [if_pos c3] at hr
    have e := nC h c3
    have es := mE h omG
    unfold kF at hr
    rcases k4 hr with ⟨c, hr⟩ | ⟨c, hr⟩
    · exact z5 hr
    rcases k4 hr with ⟨c, hr⟩ | ⟨c, hr⟩
    · obtain rfl := w8 hr
      have f := nC a0 c
      have s := mE a0 omG
      refine ⟨eG (ok0 a0 omG) hw omG (fun e => absurd rfl e) ?_, xD (by rw [eF]; omega)⟩
      show (decide (0 ≤ t.n + (k0 t).n) && decide (t.n + (k0 t).n ≤ (k0 (k0 t)).w - t.w)) = true
      simp only [Bool.and_eq_true, decide_eq_true_eq]
      omega
    rcases k4 hr with ⟨c, hr⟩ | ⟨c, hr⟩
    · obtain rfl := w8 hr
      have f := eO a0 c.1
      have s := yG a0 (.inr c.1)
      refine ⟨eG (u1 a0 omG) hw omG (fun e => absurd rfl e) ?_, xD (by rw [eF]; omega)⟩
      show (decide (0 ≤ t.n) && decide (t.n ≤ (k1 (k0 t)).w - t.w)) = true
      simp only [Bool.and_eq_true, decide_eq_true_eq]
      omega
    rcases k4 hr with ⟨c, hr⟩ | ⟨c, hr⟩
    · obtain rfl := w8 hr
      have f := eO a0 c.1
      have s := yG a0 (.inr c.1)
      refine ⟨eG (ok0 a0 omG) hw omG (fun e => absurd rfl e) ?_, xD (by rw [eF]; omega)⟩
      show (decide (0 ≤ t.n - (k1 (k0 t)).w) && decide (t.n - (k1 (k0 t)).w ≤ (k0 (k0 t)).w - t.w)) = true
      simp only [Bool.and_eq_true, decide_eq_true_eq]
      omega
    rcases k4 hr with ⟨c, hr⟩ | ⟨c, hr⟩
    · obtain rfl := w8 hr
      have s := mE a0 omG
      refine ⟨eG (ok0 a0 omG) hw omG (fun e => absurd rfl e) ?_, xD (by rw [eF]; omega)⟩
      show (decide (0 ≤ t.n) && decide (t.n ≤ (k0 (k0 t)).w - t.w)) = true
      simp only [Bool.and_eq_true, decide_eq_true_eq]
      omega
    · exact z5 hr
  rw [if_neg c3] at hr
  by_cases c4 : t.op = 20 ∨ t.op = 21
  · rw [if_pos c4] at hr
    have e := bT h c4
    have es := mE h omG
    unfold gF at hr
    rcases k4 hr with ⟨c, hr⟩ | ⟨c, hr⟩
    · exact z5 hr
    rcases k4 hr with ⟨c, hr⟩ | ⟨c, hr⟩
    · obtain rfl := w8 hr
      have f := bT a0 omG
      have s := mE a0 omG
      refine ⟨eG (ok0 a0 omG) hw omG (fun _ => rfl) ?_, xD (by rw [eF]; omega)⟩
      unfold x8
      rw [if_neg omG, if_neg omG, if_neg omG, if_neg omG, if_neg omG, if_neg omG, if_neg omG]
      show decide ((k0 (k0 t)).w ≤ t.w) = true
      exact decide_eq_true omG
    · exact z5 hr
  rw [if_neg c4] at hr
  have a1 := u1 h omG
  by_cases c5 : t.op = 18
  · rw [if_pos c5] at hr
    have e := eO h c5
    have es := yG h (.inr c5)
    unfold iF at hr
    rcases k4 hr with ⟨c, hr⟩ | ⟨c, hr⟩
    · obtain rfl := w8 hr
      have f0 := nC a0 c.1
      have f := nC a1 c.2.1
      have s := mE a1 omG
      have s0 := mE a0 omG
      have hx : (k0 (k0 t)).w = (k0 (k1 t)).w := by
        have := c.2.2.2
        rw [sH] at this
        by_cases q1 : q4 (k0 (k0 t)).op (k0 (k1 t)).op ≠ 0
        · rw [if_pos q1] at this; exact absurd this q1
        rw [if_neg q1] at this
        by_cases q2 : q4 (k0 (k0 t)).w (k0 (k1 t)).w ≠ 0
        · rw [if_pos q2] at this; exact absurd this q2
        · have q3 : q4 (k0 (k0 t)).w (k0 (k1 t)).w = 0 := by omega
          unfold q4 at q3
          split at q3
          · omega
          · split at q3 <;> omega
      refine ⟨eG (ok0 a1 omG) hw omG (fun e => absurd rfl e) ?_, xD (by rw [eF]; omega)⟩
      show (decide (0 ≤ (k1 t).n) && decide ((k1 t).n ≤ (k0 (k1 t)).w - t.w)) = true
      simp only [Bool.and_eq_true, decide_eq_true_eq]
      omega
    · exact z5 hr
  rw [if_neg c5] at hr
  have es := yG h omG
  unfold p4 at hr
  rcases k4 hr with ⟨c, hr⟩ | ⟨c, hr⟩
  · obtain rfl := w8 hr
    have hs := c.1
    unfold d4 at hs
    have hf := (r8 h).fit
    rw [xM h omG omG, ks2 (dB h omG)] at hf
    refine ⟨mk_b a1 a0 hw omG (fit_bS hf omG), ?_⟩
    unfold f2
    rw [if_pos c, if_neg (fun q => by
      have q2 : cmpT (k1 t) (k0 t) = 1 := q.2
      rw [qcx] at q2
      omega), sz_2]
    omega
  rcases k4 hr with ⟨c, hr⟩ | ⟨c, hr⟩
  · exact z5 hr
  rcases k4 hr with ⟨c, hr⟩ | ⟨c, hr⟩
  · exact z5 hr
  rcases k4 hr with ⟨c, hr⟩ | ⟨c, hr⟩
  · exact z5 hr
  rcases k4 hr with ⟨c, hr⟩ | ⟨c, hr⟩
  · obtain rfl := w8 hr
    refine ⟨eG a1 hw omG (fun _ => rfl) ?_, xD ?_⟩
    · show decide ((k1 t).w = t.w) = true
      rcases c.2 with q | q
      · exact decide_eq_true (fit_b h omG).2
      · have := oH h omG
        exact decide_eq_true omG
    · rw [eF]
      have := fF (k0 t)
      omega
  rcases k4 hr with ⟨c, hr⟩ | ⟨c, hr⟩
  · exact z5 hr
  rcases k4 hr with ⟨c, hr⟩ | ⟨c, hr⟩
  · exact z5 hr
  rcases k4 hr with ⟨c, hr⟩ | ⟨c, hr⟩
  · exact z5 hr
  rcases k4 hr with ⟨c, hr⟩ | ⟨c, hr⟩
  · exact z5 hr
  rcases k4 hr with ⟨c, hr⟩ | ⟨c, hr⟩
  · exact z5 hr
  rcases k4 hr with ⟨c, hr⟩ | ⟨c, hr⟩
  · obtain rfl := w8 hr
    have hs := c.1.1
    have hs2 := c.1.2
    unfold d4 at hs
    have e := fit_b h omG
    have f := fit_b a1 omG
    have b0 := ok0 a1 omG
    have s := yG a1 omG
    have w0 := xE a0 c.2.1
    have w1 := xE b0 c.2.2.2
    have e1 : (k0 t).w = t.w := e.1
    have e2 : (k0 (k1 t)).w = t.w := by rw [f.1]; exact e.2
    rw [e1] at w0
    rw [e2] at w1
    have hk := pA (kU (op := t.op) omG w0 w1)
    refine ⟨mk_b hk (u1 a1 omG) hw omG ?_, xD ?_⟩
    · unfold x8
      rw [if_neg omG, if_neg omG, if_pos omG]
      show (decide (t.w = t.w) && decide ((k1 (k1 t)).w = t.w)) = true
      simp only [Bool.and_eq_true, decide_eq_true_eq]
      exact ⟨trivial, by rw [f.2]; exact e.2⟩
    · rw [sz_2, sz_c]
      have := fF (k0 t)
      have := fF (k0 (k1 t))
      omega
  · exact z5 hr
/-! ### all rules, one after the other -/
def j4 (ks : List V.Term) : Bool := ks.all fun k => decide (k.op = 0)
abbrev nums (ks : List V.Term) : List Int := ks.map (·.n)
def j9 : Nat → V.Term → V.Term
  | 0, t => t
  | f + 1, t => if t.kids.length = 0 then t else if j4 t.kids = true then cT t.w (o5 t (nums t.kids)) else if (z4 t).2 = true then j9 f (z4 t).1 else (z4 t).1
def u2 (t : V.Term) : V.Term := j9 (f2 t + 1) t
theorem aZ : ∀ (f g : Nat) (t : V.Term), okT t = true → f2 t < f → f2 t < g → j9 f t = j9 g t
  | 0, _, _, _, h, _ => by omega
  | _, 0, _, _, _, h => by omega
  | f + 1, g + 1, t, h, hf, hg => by
    rw [j9, j9]
    by_cases c1 : t.kids.length = 0
    · rw [if_pos c1, if_pos c1]
    rw [if_neg c1, if_neg c1]
    by_cases c2 : j4 t.kids = true
    · rw [if_pos c2, if_pos c2]
    rw [if_neg c2, if_neg c2]
    by_cases c3 : (z4 t).2 = true
    · rw [if_pos c3, if_pos c3]
      have ho : 1 ≤ t.op ∧ t.op ≤ 21 := hH h (fun e => c1 (by rw [e]; rfl))
      have := a8 (x := (z4 t).1) h ho (Prod.ext rfl c3)
      exact aZ f g _ this.1 omG omG
    · rw [if_neg c3, if_neg c3]
section
variable {t x : V.Term}
theorem xY (h : t.kids.length = 0) : u2 t = t := by unfold u2; rw [j9, if_pos h]
theorem fN (h : t.kids.length ≠ 0) (hc : j4 t.kids = true) : u2 t = cT t.w (o5 t (nums t.kids)) := by unfold u2; rw [j9, if_neg h, if_pos hc]
theorem qgg (h : t.kids.length ≠ 0) (hc : j4 t.kids = false) (hr : z4 t = (x, false)) : u2 t = x := by
  unfold u2
  rw [j9, if_neg h, if_neg (by rw [hc]; decide), hr, if_neg Bool.false_ne_true]
theorem qgh (ht : okT t = true) (h : t.kids.length ≠ 0) (hc : j4 t.kids = false) (hr : z4 t = (x, true)) : u2 t = u2 x := by
  have ho : 1 ≤ t.op ∧ t.op ≤ 21 := hH ht (fun e => h (by rw [e]; rfl))
  obtain ⟨h1, h2⟩ := a8 ht ho hr
  have e : u2 t = j9 (f2 t) x := by
    show j9 (f2 t + 1) t = _
    rw [j9, if_neg h, if_neg (by rw [hc]; decide), hr, if_pos rfl]
  rw [e]
  exact aZ _ _ _ h1 omG omG
end
end Vg
