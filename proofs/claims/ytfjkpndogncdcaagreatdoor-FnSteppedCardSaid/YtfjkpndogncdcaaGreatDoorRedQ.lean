/- Terms in order: the plain law of the comparison. No condition. -/
import Derived.Test.YtfjkpndogncdcaaGreatDoorTermI
import Derived.Lib.Strings
import Derived.Test.YtfjkpndogncdcaaGreatDoorWords
namespace Vg
open Go Go.Proofs
/-! ### strings in order -/
theorem bl_eq : ∀ (x y : List UInt8), Op.bytesLess x y = decide (x < y)
  | [], [] => by simp [Op.bytesLess]
  | _ :: _, [] => by simp [Op.bytesLess]
  | [], _ :: _ => by simp [Op.bytesLess]
  | a :: x, b :: y => by
    rw [Op.bytesLess, bl_eq x y]
    simp only [List.cons_lt_cons_iff]
    by_cases h1 : a < b <;> by_cases h2 : a = b <;> by_cases h3 : x < y <;> simp [h1, h2, h3]
def i6 (a b : ByteArray) : Bool := Op.bytesLess a.toList b.toList
theorem nH {a b : ByteArray} : i6 a b = true ↔ a.data.toList < b.data.toList := by
  unfold i6
  rw [bl_eq, Lib.toList_data, Lib.toList_data, decide_eq_true_iff]
theorem ba_ext {a b : ByteArray} (h : a.data.toList = b.data.toList) : a = b := ByteArray.ext (Array.ext' h)
theorem pK (a : ByteArray) : i6 a a = false := by
  rw [Bool.eq_false_iff]
  intro h
  exact List.lt_irrefl _ (nH.1 h)
theorem rM {a b c : ByteArray} (h1 : i6 a b = true) (h2 : i6 b c = true) : i6 a c = true := nH.2 (List.lt_trans (nH.1 h1) (nH.1 h2))
theorem qa1 {a b : ByteArray} (h : i6 a b = true) : i6 b a = false := by
  rw [Bool.eq_false_iff]
  intro h2
  have := rM h h2
  rw [pK] at this
  cases this
theorem oK {a b : ByteArray} (hn : a ≠ b) (h : i6 a b = false) : i6 b a = true := by
  rw [Bool.eq_false_iff] at h
  refine nH.2 ?_
  have h1 : ¬ a.data.toList < b.data.toList := fun k => h (nH.2 k)
  rcases List.le_iff_lt_or_eq.1 (List.not_lt.1 h1) with h2 | h2
  . exact h2
  . exact absurd (ba_ext h2.symm) hn
/-! ### numbers and terms in order -/
def o4 (a b : Int) : Int := if a < b then -1 else if b < a then 1 else 0
def scmp (a b : ByteArray) : Int := if i6 a b = true then -1 else if i6 b a = true then 1 else 0
theorem nT (a b : Int) : o4 b a = - o4 a b := by
  unfold o4
  split <;> split <;> omega
theorem mT (a b : Int) : o4 a b = -1 \/ o4 a b = 0 \/ o4 a b = 1 := by
  unfold o4
  split
  . exact .inl rfl
  . split
    . exact .inr (.inr rfl)
    . exact .inr (.inl rfl)
theorem qhv (a b : ByteArray) : scmp b a = - scmp a b := by
  unfold scmp
  by_cases h1 : i6 a b = true
  . rw [if_pos h1, if_neg (by rw [qa1 h1]; decide), if_pos h1]; rfl
  . by_cases h2 : i6 b a = true
    . rw [if_pos h2, if_neg h1, if_pos h2]
    . rw [if_neg h1, if_neg h2, if_neg h2, if_neg h1]; rfl
theorem scmp_r (a b : ByteArray) : scmp a b = -1 \/ scmp a b = 0 \/ scmp a b = 1 := by
  unfold scmp
  split
  . exact .inl rfl
  . split
    . exact .inr (.inr rfl)
    . exact .inr (.inl rfl)
theorem tT (a : ByteArray) : scmp a a = 0 := by
  unfold scmp
  rw [if_neg (by rw [pK]; decide), if_neg (by rw [pK]; decide)]
theorem qal {a b : ByteArray} (h : i6 a b = true) : scmp a b = -1 := by unfold scmp; rw [if_pos h]
theorem uT {a b : ByteArray} (hn : a ≠ b) (h : i6 a b = false) : scmp a b = 1 := by
  unfold scmp
  rw [if_neg (by rw [h]; decide), if_pos (oK hn h)]
mutual
def cmpT : V.Term -> V.Term -> Int
  | ⟨o, w, n, nm, ks⟩, b => if o4 o b.op ≠ 0 then o4 o b.op else if o4 w b.w ≠ 0 then o4 w b.w else if o4 n b.n ≠ 0 then o4 n b.n else if scmp nm b.name ≠ 0 then scmp nm b.name else j9 ks b.kids
def j9 : List V.Term -> List V.Term -> Int
  | [], [] => 0
  | [], _ :: _ => -1
  | _ :: _, [] => 1
  | a :: xs, b :: ys => if cmpT a b ≠ 0 then cmpT a b else j9 xs ys
end
theorem vJ (a b : V.Term) : cmpT a b = if o4 a.op b.op ≠ 0 then o4 a.op b.op else if o4 a.w b.w ≠ 0 then o4 a.w b.w else if o4 a.n b.n ≠ 0 then o4 a.n b.n else if scmp a.name b.name ≠ 0 then scmp a.name b.name else j9 a.kids b.kids := by
  cases a; rw [cmpT]
mutual
theorem qfo : ∀ (a b : V.Term), cmpT b a = - cmpT a b
  | ⟨o, w, n, nm, ks⟩, b => by
    rw [vJ b, cmpT]
    simp only
    rw [nT o, nT w, nT n, qhv nm, qfl ks b.kids]
    simp only [ne_eq, Int.neg_eq_zero]
    split
    . rfl
    . split
      . rfl
      . split
        . rfl
        . split <;> rfl
theorem qfl : ∀ (a b : List V.Term), j9 b a = - j9 a b
  | [], [] => by simp only [j9]; rfl
  | [], _ :: _ => by simp only [j9]; rfl
  | _ :: _, [] => by simp only [j9]
  | a :: xs, b :: ys => by
    simp only [j9]
    rw [qfo a b, qfl xs ys]
    simp only [ne_eq, Int.neg_eq_zero]
    split <;> rfl
end
mutual
theorem qfn : ∀ (a b : V.Term), cmpT a b = -1 \/ cmpT a b = 0 \/ cmpT a b = 1
  | ⟨o, w, n, nm, ks⟩, b => by
    rw [cmpT]
    split
    . exact mT _ _
    . split
      . exact mT _ _
      . split
        . exact mT _ _
        . split
          . exact scmp_r _ _
          . exact qfk _ _
theorem qfk : ∀ (a b : List V.Term), j9 a b = -1 \/ j9 a b = 0 \/ j9 a b = 1
  | [], [] => .inr (.inl (by simp only [j9]))
  | [], _ :: _ => .inl (by simp only [j9])
  | _ :: _, [] => .inr (.inr (by simp only [j9]))
  | a :: xs, b :: ys => by
    simp only [j9]
    split
    . exact qfn a b
    . exact qfk xs ys
end
/-! ### kid by kid -/
structure CmpI (a b : V.Term) (i : Nat) : Prop where
  la : i <= a.kids.length
  lb : i <= b.kids.length
  eq : cmpT a b = j9 (a.kids.drop i) (b.kids.drop i)
theorem uL {l : List V.Term} {i : Nat} (h : (i : Int) < l.length) : l.drop i = kAt l i :: l.drop (i + 1) := by
  have hi : i < l.length := by omega
  rw [List.drop_eq_getElem_cons hi]
  congr 1
  rw [kAt, List.getD_eq_getElem?_getD, List.getElem?_eq_getElem hi]; rfl
section
variable {a b : V.Term} {i : Nat}
theorem cmpI_0 (h1 : ¬ o4 a.op b.op ≠ 0) (h2 : ¬ o4 a.w b.w ≠ 0) (h3 : ¬ o4 a.n b.n ≠ 0) (h4 : ¬ scmp a.name b.name ≠ 0) : CmpI a b 0 := by
  refine ⟨Nat.zero_le _, Nat.zero_le _, ?_⟩
  rw [vJ, if_neg h1, if_neg h2, if_neg h3, if_neg h4]; rfl
theorem cmpI_s (h : CmpI a b i) (h1 : (i : Int) < a.kids.length) (h2 : (i : Int) < b.kids.length) (h0 : ¬ cmpT (kAt a.kids i) (kAt b.kids i) ≠ 0) : CmpI a b (i + 1) := by
  refine ⟨by omega, by omega, ?_⟩
  rw [h.eq, uL h1, uL h2, j9, if_neg h0]
theorem cmpI_f (h : CmpI a b i) (h1 : (i : Int) < a.kids.length) (h2 : (i : Int) < b.kids.length) (h0 : cmpT (kAt a.kids i) (kAt b.kids i) ≠ 0) : cmpT a b = cmpT (kAt a.kids i) (kAt b.kids i) := by
  rw [h.eq, uL h1, uL h2, j9, if_pos h0]
theorem qfp (h : CmpI a b i) (h1 : ¬ ((i : Int) < a.kids.length /\ (i : Int) < b.kids.length)) : cmpT a b = o4 a.kids.length b.kids.length := by
  have e1 := h.la
  have e2 := h.lb
  rw [h.eq]
  by_cases ha : (i : Int) < a.kids.length
  . have hb : b.kids.drop i = [] := List.drop_of_length_le omG
    rw [uL ha, hb, j9]
    unfold o4
    rw [if_neg omG, if_pos omG]
  . have ha' : a.kids.drop i = [] := List.drop_of_length_le omG
    rw [ha']
    by_cases hb : (i : Int) < b.kids.length
    . rw [uL hb, j9]
      unfold o4
      rw [if_pos omG]
    . have hb' : b.kids.drop i = [] := List.drop_of_length_le omG
      rw [hb', j9]
      unfold o4
      rw [if_neg omG, if_neg omG]
end
theorem cmp_op {a b : V.Term} (h : o4 a.op b.op ≠ 0) : cmpT a b = o4 a.op b.op := by rw [vJ, if_pos h]
theorem cmp_w {a b : V.Term} (h1 : ¬ o4 a.op b.op ≠ 0) (h : o4 a.w b.w ≠ 0) : cmpT a b = o4 a.w b.w := by rw [vJ, if_neg h1, if_pos h]
theorem cmp_n {a b : V.Term} (h1 : ¬ o4 a.op b.op ≠ 0) (h2 : ¬ o4 a.w b.w ≠ 0) (h : o4 a.n b.n ≠ 0) : cmpT a b = o4 a.n b.n := by rw [vJ, if_neg h1, if_neg h2, if_pos h]
theorem cmp_nm {a b : V.Term} (h1 : ¬ o4 a.op b.op ≠ 0) (h2 : ¬ o4 a.w b.w ≠ 0) (h3 : ¬ o4 a.n b.n ≠ 0) (h : scmp a.name b.name ≠ 0) : cmpT a b = scmp a.name b.name := by rw [vJ, if_neg h1, if_neg h2, if_neg h3, if_pos h]
end Vg
namespace Vg
open Go Go.Proofs
theorem vK {a : Int} (h0 : 0 <= a) (h1 : a < 65536) : (BitVec.ofInt IntKind.i64.bits a).toNat = a.toNat := by
  have hb : IntKind.i64.bits = 64 := rfl
  rw [BitVec.toNat_ofInt, hb]
  have : a % ((2 ^ 64 : Nat) : Int) = a := Int.emod_eq_of_lt h0 omG
  rw [this]
theorem wordOf_word {w : Int} (n : Int) (h : inP w 1 16 = true) : wordP w (k9 w n) = true := by
  have F := wf h
  have h2 := F.s2
  have h3 := F.s3
  unfold k9
  rw [if_pos h]
  have e1 : (BitVec.ofInt IntKind.i64.bits n &&& BitVec.ofInt IntKind.i64.bits (2 ^ w.toNat - 1)).toNat <= ((2 : Int) ^ w.toNat - 1).toNat := by
    rw [BitVec.toNat_and, vK (a := 2 ^ w.toNat - 1) omG omG]
    exact Nat.and_le_right
  generalize (BitVec.ofInt IntKind.i64.bits n &&& BitVec.ofInt IntKind.i64.bits (2 ^ w.toNat - 1)).toNat = m at e1
  rw [j2 omG omG]
  exact nC h omG omG
theorem lU (k : Nat) : ((2 : Int) ^ k).toNat = 2 ^ k := by
  have : ((2 : Int) ^ k) = ((2 ^ k : Nat) : Int) := by simp
  rw [this]; rfl
theorem oX {w : Int} {a b : Int} (ha : wordP w a = true) (hb : wordP w b = true) (f : Nat -> Nat -> Nat) (hf : ∀ x y n, x < 2 ^ n -> y < 2 ^ n -> f x y < 2 ^ n)
    {v : Nat} (hv : v = f (BitVec.ofInt IntKind.i64.bits a).toNat (BitVec.ofInt IntKind.i64.bits b).toNat) : wordP w (IntKind.i64.wrap (v : Nat)) = true := by
  obtain ⟨hw, a0, a1⟩ := p4 ha
  obtain ⟨_, b0, b1⟩ := p4 hb
  have F := wf hw
  have h2 := F.s2
  rw [vK a0 omG, vK b0 omG] at hv
  have e := lU w.toNat
  have := hf a.toNat b.toNat w.toNat omG omG
  subst hv
  generalize f a.toNat b.toNat = m at this
  rw [j2 omG omG]
  exact nC hw omG omG
theorem tI {w : Int} (h : inP w 1 16 = true) (b : Bool) : wordP w (o8 b) = true := by
  have F := wf h
  have h3 := F.s3
  cases b
  . exact nC h (by decide) (by show (0 : Int) < _; omega)
  . exact nC h (by decide) (by show (1 : Int) < _; omega)
theorem zero_word {w : Int} (h : inP w 1 16 = true) : wordP w 0 = true := tI h false
theorem sO {op w a b : Int} (ho : 3 <= op /\ op <= 16) (ha : wordP w a = true) (hb : wordP w b = true) : wordP w (r3 op w a b) = true := by
  obtain ⟨hw, a0, a1⟩ := p4 ha
  obtain ⟨_, b0, b1⟩ := p4 hb
  have F := wf hw
  have h2 := F.s2
  have h3 := F.s3
  unfold r3
  rw [if_pos (by simp [ha, hb])]
  have cases_op : op = 3 \/ op = 4 \/ op = 5 \/ op = 6 \/ op = 7 \/ op = 8 \/ op = 9 \/ op = 10 \/ op = 11 \/ op = 12 \/ op = 13 \/ op = 14 \/ op = 15 \/ op = 16 := by omega
  have hsh : wordP w (cB op w a b) = true := by
    unfold cB
    by_cases h13 : op = 13
    . rw [if_pos h13]; exact wordOf_word _ hw
    rw [if_neg h13]
    by_cases hwb : w <= b
    . rw [if_pos hwb]; exact zero_word hw
    rw [if_neg hwb]
    by_cases h11 : op = 11
    . rw [if_pos h11]; exact wordOf_word _ hw
    rw [if_neg h11]
    have hp : (0 : Int) < 2 ^ min b.toNat IntKind.i64.bits := Int.pow_pos (by decide)
    rw [Int.fdiv_eq_ediv_of_nonneg _ (Int.le_of_lt hp)]
    have e1 := Int.ediv_nonneg a0 (Int.le_of_lt hp)
    have e2 : a / 2 ^ min b.toNat IntKind.i64.bits <= a := Int.ediv_le_self _ a0
    exact nC hw e1 omG
  have hdiv : wordP w (if b = 0 then 2 ^ w.toNat - 1 else IntKind.i64.wrap (a.tdiv b)) = true := by
    by_cases hb0 : b = 0
    . rw [if_pos hb0]; exact nC hw omG omG
    . rw [if_neg hb0]
      have e1 : 0 <= a.tdiv b := Int.tdiv_nonneg a0 b0
      have e2 : a.tdiv b <= a := by
        rw [Int.tdiv_eq_ediv_of_nonneg a0]
        exact Int.ediv_le_self b a0
      rw [j2 omG omG]
      exact nC hw e1 omG
  have hrem : wordP w (if b = 0 then a else a.tmod b) = true := by
    by_cases hb0 : b = 0
    . rw [if_pos hb0]; exact ha
    . rw [if_neg hb0]
      have e1 : 0 <= a.tmod b := Int.tmod_nonneg b a0
      have e2 : a.tmod b < b := Int.tmod_lt_of_pos a omG
      exact nC hw e1 omG
  have hand := oX ha hb (· &&& ·) (fun x y n hx _ => Nat.lt_of_le_of_lt Nat.and_le_left hx) (v := (BitVec.ofInt IntKind.i64.bits a &&& BitVec.ofInt IntKind.i64.bits b).toNat) (by rw [BitVec.toNat_and])
  have hor := oX ha hb (· ||| ·) (fun x y n hx hy => Nat.or_lt_two_pow hx hy) (v := (BitVec.ofInt IntKind.i64.bits a ||| BitVec.ofInt IntKind.i64.bits b).toNat) (by rw [BitVec.toNat_or])
  have hxor := oX ha hb (· ^^^ ·) (fun x y n hx hy => Nat.xor_lt_two_pow hx hy) (v := (BitVec.ofInt IntKind.i64.bits a ^^^ BitVec.ofInt IntKind.i64.bits b).toNat) (by rw [BitVec.toNat_xor])
  generalize IntKind.i64.wrap (BitVec.ofInt IntKind.i64.bits a &&& BitVec.ofInt IntKind.i64.bits b).toNat = v1 at hand ⊢
  generalize IntKind.i64.wrap (BitVec.ofInt IntKind.i64.bits a ||| BitVec.ofInt IntKind.i64.bits b).toNat = v2 at hor ⊢
  generalize IntKind.i64.wrap (BitVec.ofInt IntKind.i64.bits a ^^^ BitVec.ofInt IntKind.i64.bits b).toNat = v3 at hxor ⊢
  generalize (if b = 0 then 2 ^ w.toNat - 1 else IntKind.i64.wrap (a.tdiv b)) = v4 at hdiv ⊢
  generalize (if b = 0 then a else a.tmod b) = v5 at hrem ⊢
  generalize hv6 : cB op w a b = v6 at hsh ⊢
  have t1 := tI hw (a == b)
  have t2 := tI hw (decide (a < b))
  have t3 := tI hw (decide (r7 w a < r7 w b))
  have m1 := wordOf_word (IntKind.i64.wrap (a + b)) hw
  have m2 := wordOf_word (IntKind.i64.wrap (a - b)) hw
  have m3 := wordOf_word (IntKind.i64.wrap (a * b)) hw
  rcases cases_op with rfl | rfl | rfl | rfl | rfl | rfl | rfl | rfl | rfl | rfl | rfl | rfl | rfl | rfl <;> first | exact m1 | exact m2 | exact m3 | exact hdiv | exact hrem | exact hand | exact hor | exact hxor | exact hsh | exact t1 | exact t2 | exact t3
theorem qnh {w a : Int} (ha : wordP w a = true) : wordP w (p7 1 w a) = true := by
  obtain ⟨hw, a0, a1⟩ := p4 ha
  unfold p7
  rw [if_pos ha, if_pos rfl]
  exact nC hw omG omG
abbrev cT (w n : Int) : V.Term := ⟨0, w, n, ByteArray.empty, []⟩
abbrev oT (op w n : Int) (ks : List V.Term) : V.Term := ⟨op, w, n, ByteArray.empty, ks⟩
/-! ### what is known of a good term -/
theorem sG (t : V.Term) : okT t = (jD t.op t.w t.n t.name t.kids && (!decide (t.op = 22) || isNameP t.name) && okTs t.kids) := by cases t; rw [okT]
theorem sE : ∀ {ks : List V.Term} {i : Nat}, okTs ks = true -> i < ks.length -> okT (kAt ks i) = true
  | t :: ts, 0, h, _ => by rw [okTs, Bool.and_eq_true] at h; exact h.1
  | t :: ts, i + 1, h, hi => by rw [okTs, Bool.and_eq_true] at h; exact sE (ks := ts) (i := i) h.2 (by simpa using hi)
theorem x9 {t : V.Term} (h : okT t = true) : NodeOk t.op t.w t.n t.name t.kids := by
  rw [sG, Bool.and_eq_true, Bool.and_eq_true] at h
  exact uC.1 h.1.1
theorem kQ {t : V.Term} (h : okT t = true) : okTs t.kids = true := by
  rw [sG, Bool.and_eq_true] at h
  exact h.2
theorem uK {t : V.Term} {i : Nat} (h : okT t = true) (hi : i < t.kids.length) : okT (kAt t.kids i) = true := sE (kQ h) hi
theorem iQ {op w n : Int} {ks : List V.Term} (h : NodeOk op w n ByteArray.empty ks) (ho : op ≠ 22) (hk : okTs ks = true) : okT (oT op w n ks) = true := by
  rw [sG, Bool.and_eq_true, Bool.and_eq_true]
  exact ⟨⟨uC.2 h, by simp [ho]⟩, hk⟩
theorem b6 {n lo hi : Int} : inP n lo hi = true ↔ lo <= n /\ n <= hi := by simp [inP]
theorem d8 {t : V.Term} (h : okT t = true) : 1 <= t.w /\ t.w <= 16 := b6.1 (x9 h).width
theorem k7 {t : V.Term} (h : okT t = true) : inP t.w 1 16 = true := (x9 h).width
theorem jQ {t : V.Term} (h : okT t = true) (h1 : t.op ≠ 0) (h2 : t.op ≠ 19) : t.n = 0 := (x9 h).num h1 h2
theorem wM {t : V.Term} (h : okT t = true) (h1 : t.op ≠ 22) : t.name = ByteArray.empty := (x9 h).nam h1
theorem gQ {t : V.Term} (h : okT t = true) : 0 <= t.op /\ t.op <= 22 := by
  have := (x9 h).len
  unfold mA at this
  repeat' split at this
  all_goals omega
theorem rH {t : V.Term} (h : okT t = true) (hk : t.kids ≠ []) : 1 <= t.op /\ t.op <= 21 := by
  have := (x9 h).len
  have h1 : 0 < t.kids.length := by
    cases e : t.kids with
    | nil => exact absurd e hk
    | cons _ _ => simp
  unfold mA at this
  repeat' split at this
  all_goals omega
theorem ks0 {l : List V.Term} (h : (l.length : Int) = 0) : l = [] := by
  cases l with
  | nil => rfl
  | cons _ _ => simp at h; omega
theorem ks1 {l : List V.Term} (h : (l.length : Int) = 1) : l = [kAt l 0] := by
  match l, h with
  | [a], _ => rfl
  | [], h => simp at h
  | _ :: _ :: _, h => simp at h; omega
theorem ks2 {l : List V.Term} (h : (l.length : Int) = 2) : l = [kAt l 0, kAt l 1] := by
  match l, h with
  | [a, b], _ => rfl
  | [], h => simp at h
  | [_], h => simp at h
  | _ :: _ :: _ :: _, h => simp at h; omega
theorem ks3 {l : List V.Term} (h : (l.length : Int) = 3) : l = [kAt l 0, kAt l 1, kAt l 2] := by
  match l, h with
  | [a, b, c], _ => rfl
  | [], h => simp at h
  | [_], h => simp at h
  | [_, _], h => simp at h
  | _ :: _ :: _ :: _ :: _, h => simp at h; omega
abbrev k0 (t : V.Term) : V.Term := kAt t.kids 0
abbrev k1 (t : V.Term) : V.Term := kAt t.kids 1
abbrev k2 (t : V.Term) : V.Term := kAt t.kids 2
section
variable {t : V.Term}
theorem lD (h : okT t = true) (ho : t.op = 1 \/ t.op = 2 \/ t.op = 19 \/ t.op = 20 \/ t.op = 21) : (t.kids.length : Int) = 1 := by
  rw [(x9 h).len]; unfold mA; rw [if_neg omG, if_pos ho]
theorem jC (h : okT t = true) (ho : (3 <= t.op /\ t.op <= 16) \/ t.op = 18) : (t.kids.length : Int) = 2 := by
  rw [(x9 h).len]; unfold mA; rw [if_neg omG, if_neg omG, if_pos ho]
theorem tB (h : okT t = true) (ho : t.op = 17) : (t.kids.length : Int) = 3 := by
  rw [(x9 h).len]; unfold mA; rw [if_neg omG, if_neg omG, if_neg omG, if_pos ho]
theorem len_c (h : okT t = true) (ho : t.op = 0) : t.kids = [] := by
  apply ks0
  rw [(x9 h).len]; unfold mA; rw [if_pos omG]
theorem qmv (h : okT t = true) (ho : t.op = 0) : t = cT t.w t.n := by
  have e1 := len_c h ho
  have e2 := wM h omG
  cases t
  simp only at ho e1 e2
  subst ho e1 e2
  rfl
theorem const_w (h : okT t = true) (ho : t.op = 0) : wordP t.w t.n = true := (x9 h).const ho
theorem cF (h : okT t = true) (ho : t.op = 1 \/ t.op = 2) : (k0 t).w = t.w := by
  have := (x9 h).fit
  unfold oA at this
  rw [if_neg omG, if_pos ho] at this
  simpa using this
theorem fit_b (h : okT t = true) (ho : 3 <= t.op /\ t.op <= 13) : (k0 t).w = t.w /\ (k1 t).w = t.w := by
  have := (x9 h).fit
  unfold oA at this
  rw [if_neg omG, if_neg omG, if_pos ho] at this
  simpa using this
theorem fI (h : okT t = true) (ho : 14 <= t.op /\ t.op <= 16) : (k0 t).w = (k1 t).w /\ t.w = 1 := by
  have := (x9 h).fit
  unfold oA at this
  rw [if_neg omG, if_neg omG, if_neg omG, if_pos ho] at this
  simpa using this
theorem bO (h : okT t = true) (ho : t.op = 17) : (k0 t).w = 1 /\ (k1 t).w = t.w /\ (k2 t).w = t.w := by
  have := (x9 h).fit
  unfold oA at this
  rw [if_neg omG, if_neg omG, if_neg omG, if_neg omG, if_pos ho] at this
  simp only [Bool.and_eq_true, decide_eq_true_eq] at this
  exact ⟨this.1.1, this.1.2, this.2⟩
theorem mJ (h : okT t = true) (ho : t.op = 18) : (k0 t).w + (k1 t).w = t.w := by
  have := (x9 h).fit
  unfold oA at this
  rw [if_neg omG, if_neg omG, if_neg omG, if_neg omG, if_neg omG, if_pos ho] at this
  simpa using this
theorem nB (h : okT t = true) (ho : t.op = 19) : 0 <= t.n /\ t.n <= (k0 t).w - t.w := by
  have := (x9 h).fit
  unfold oA at this
  rw [if_neg omG, if_neg omG, if_neg omG, if_neg omG, if_neg omG, if_neg omG, if_pos ho] at this
  simpa using this
theorem nJ (h : okT t = true) (ho : t.op = 20 \/ t.op = 21) : (k0 t).w <= t.w := by
  have := (x9 h).fit
  unfold oA at this
  rw [if_neg omG, if_neg omG, if_neg omG, if_neg omG, if_neg omG, if_neg omG, if_neg omG] at this
  simpa using this
theorem ok0 (h : okT t = true) (ho : 1 <= t.op /\ t.op <= 21) : okT (k0 t) = true := by
  apply uK h
  have h1 := lD h
  have h2 := jC h
  have h3 := tB h
  omega
theorem r4 (h : okT t = true) (ho : (3 <= t.op /\ t.op <= 18)) : okT (k1 t) = true := by
  apply uK h
  have h2 := jC h
  have h3 := tB h
  omega
theorem ok2 (h : okT t = true) (ho : t.op = 17) : okT (k2 t) = true := by
  apply uK h
  have h3 := tB h
  omega
end
theorem wH {op w n : Int} {a : V.Term} (ha : okT a = true) (hw : 1 <= w /\ w <= 16) (ho : op = 1 \/ op = 2 \/ op = 19 \/ op = 20 \/ op = 21) (hn : op ≠ 19 -> n = 0) (hf : oA op w n [a] = true) : okT (oT op w n [a]) = true := by
  refine iQ ⟨b6.2 hw, ?_, ?_, hf, fun e => by omega, fun _ e => hn e, fun _ => rfl⟩ omG (by simp [okTs, ha])
  . unfold mA; rw [if_neg omG, if_pos ho]; rfl
  . simp [k7 ha]
theorem mk_b {op w : Int} {a b : V.Term} (ha : okT a = true) (hb : okT b = true) (hw : 1 <= w /\ w <= 16) (ho : (3 <= op /\ op <= 16) \/ op = 18) (hf : oA op w 0 [a, b] = true) : okT (oT op w 0 [a, b]) = true := by
  refine iQ ⟨b6.2 hw, ?_, ?_, hf, fun e => by omega, fun _ _ => rfl, fun _ => rfl⟩ omG (by simp [okTs, ha, hb])
  . unfold mA; rw [if_neg omG, if_neg omG, if_pos ho]; rfl
  . simp [k7 ha, k7 hb]
theorem mk_i {w : Int} {a b c : V.Term} (ha : okT a = true) (hb : okT b = true) (hc : okT c = true) (hw : 1 <= w /\ w <= 16) (hf : oA 17 w 0 [a, b, c] = true) : okT (oT 17 w 0 [a, b, c]) = true := by
  refine iQ ⟨b6.2 hw, ?_, ?_, hf, fun e => by omega, fun _ _ => rfl, fun _ => rfl⟩ omG (by simp [okTs, ha, hb, hc])
  . rfl
  . simp [k7 ha, k7 hb, k7 hc]
theorem rB {w n : Int} (h : wordP w n = true) : okT (cT w n) = true := by
  refine iQ ⟨(p4 h).1, rfl, rfl, rfl, fun _ => h, fun e => absurd rfl e, fun _ => rfl⟩ (by decide) rfl
/-! ### values -/
def v8 (w a low n : Int) : Int := if wordP w a = true /\ 0 <= low /\ 1 <= n /\ n <= w - low then k9 n (Int.fdiv a (2 ^ min low.toNat IntKind.i64.bits)) else -1
def eB (w a v b : Int) : Int := if wordP w a = true /\ wordP v b = true /\ w + v <= 16 then a * 2 ^ v.toNat + b else -1
def d9 (w a n : Int) (s : Bool) : Int := if wordP w a = true /\ w <= n /\ n <= 16 then (if s = true then k9 n (r7 w a) else a) else -1
abbrev xAt (x : List Int) (i : Nat) : Int := x.getD i K.ints.dflt
def m6 (t : V.Term) (x : List Int) : Int :=
  if t.op = 1 \/ t.op = 2 then p7 t.op (k0 t).w (xAt x 0)
  else if 3 <= t.op /\ t.op <= 16 then r3 t.op (k0 t).w (xAt x 0) (xAt x 1)
  else if t.op = 17 then (if xAt x 0 = 1 then xAt x 1 else xAt x 2)
  else if t.op = 18 then eB (k0 t).w (xAt x 0) (k1 t).w (xAt x 1)
  else if t.op = 19 then v8 (k0 t).w (xAt x 0) t.n t.w
  else d9 (k0 t).w (xAt x 0) t.w (t.op == 21)
theorem qgi {op w a : Int} (ho : op = 1 \/ op = 2) (ha : wordP w a = true) : wordP w (p7 op w a) = true := by
  rcases ho with rfl | rfl
  . exact qnh ha
  . have := wordOf_word (IntKind.i64.wrap (0 - a)) (p4 ha).1
    unfold p7
    rw [if_pos ha, if_neg (by decide), if_pos rfl]
    exact this
theorem qni {op w a b : Int} (ho : 14 <= op /\ op <= 16) (ha : wordP w a = true) (hb : wordP w b = true) : wordP 1 (r3 op w a b) = true := by
  have c : op = 14 \/ op = 15 \/ op = 16 := by omega
  have e : (wordP w a && wordP w b) = true := by rw [ha, hb]; rfl
  rcases c with rfl | rfl | rfl
  . have : r3 14 w a b = o8 (a == b) := by unfold r3; rw [if_pos e]; rfl
    rw [this]; exact tI (by decide) _
  . have : r3 15 w a b = o8 (decide (a < b)) := by unfold r3; rw [if_pos e]; rfl
    rw [this]; exact tI (by decide) _
  . have : r3 16 w a b = o8 (decide (r7 w a < r7 w b)) := by unfold r3; rw [if_pos e]; rfl
    rw [this]; exact tI (by decide) _
theorem xV {w a v b : Int} (ha : wordP w a = true) (hb : wordP v b = true) (hw : w + v <= 16) : wordP (w + v) (eB w a v b) = true := by
  unfold eB
  rw [if_pos ⟨ha, hb, hw⟩]
  obtain ⟨h1, a0, a1⟩ := p4 ha
  obtain ⟨h2, b0, b1⟩ := p4 hb
  rw [b6] at h1 h2
  have hp : (0 : Int) < 2 ^ v.toNat := Int.pow_pos (by decide)
  have e : (2 : Int) ^ (w + v).toNat = 2 ^ w.toNat * 2 ^ v.toNat := by
    rw [<- Int.pow_add]
    congr 1
    omega
  have h3 : 0 <= a * 2 ^ v.toNat := Int.mul_nonneg a0 (Int.le_of_lt hp)
  have h4 : (a + 1) * 2 ^ v.toNat <= 2 ^ w.toNat * 2 ^ v.toNat := Int.mul_le_mul_of_nonneg_right omG (Int.le_of_lt hp)
  rw [Int.add_mul, Int.one_mul] at h4
  refine nC (b6.2 ⟨by omega, by omega⟩) omG ?_
  rw [e]
  omega
theorem iM {w a n : Int} {s : Bool} (ha : wordP w a = true) (h1 : w <= n) (h2 : n <= 16) : wordP n (d9 w a n s) = true := by
  unfold d9
  rw [if_pos ⟨ha, h1, h2⟩]
  obtain ⟨hw, a0, a1⟩ := p4 ha
  rw [b6] at hw
  have hn : inP n 1 16 = true := b6.2 ⟨by omega, by omega⟩
  split
  . exact wordOf_word _ hn
  . refine nC hn a0 ?_
    have e : n.toNat = w.toNat + (n - w).toNat := by omega
    have hp : (1 : Int) <= 2 ^ (n - w).toNat := by have : (0 : Int) < 2 ^ (n - w).toNat := Int.pow_pos (by decide); omega
    have hq : (0 : Int) <= 2 ^ w.toNat := Int.le_of_lt (Int.pow_pos (by decide))
    have := Int.mul_le_mul_of_nonneg_left hp hq
    rw [e, Int.pow_add]
    omega
theorem xR {w a low n : Int} (ha : wordP w a = true) (h0 : 0 <= low) (h1 : 1 <= n) (h2 : n <= w - low) : wordP n (v8 w a low n) = true := by
  unfold v8
  rw [if_pos ⟨ha, h0, h1, h2⟩]
  have hw := (p4 ha).1
  rw [b6] at hw
  exact wordOf_word _ (b6.2 ⟨h1, by omega⟩)
theorem qgj {t : V.Term} {x : List Int} (h : okT t = true) (ho : 1 <= t.op /\ t.op <= 21) (hx : ∀ i, i < t.kids.length -> wordP (kAt t.kids i).w (xAt x i) = true) : wordP t.w (m6 t x) = true := by
  have hw := d8 h
  have h0 : wordP (k0 t).w (xAt x 0) = true := hx 0 (by have h1 := lD h; have h2 := jC h; have h3 := tB h; omega)
  unfold m6
  by_cases c1 : t.op = 1 \/ t.op = 2
  . rw [if_pos c1]
    have e := cF h c1
    rw [e] at h0 ⊢
    exact qgi c1 h0
  rw [if_neg c1]
  by_cases c2 : 3 <= t.op /\ t.op <= 16
  . rw [if_pos c2]
    have h1 : wordP (k1 t).w (xAt x 1) = true := hx 1 (by have h2 := jC h; omega)
    by_cases c3 : t.op <= 13
    . have e := fit_b h ⟨c2.1, c3⟩
      rw [e.1] at h0 ⊢
      rw [e.2] at h1
      exact sO c2 h0 h1
    . have e := fI h ⟨by omega, c2.2⟩
      rw [e.2]
      rw [<- e.1] at h1
      exact qni ⟨by omega, c2.2⟩ h0 h1
  rw [if_neg c2]
  by_cases c3 : t.op = 17
  . rw [if_pos c3]
    have e := bO h c3
    have h1 : wordP (k1 t).w (xAt x 1) = true := hx 1 (by have h2 := tB h; omega)
    have h2 : wordP (k2 t).w (xAt x 2) = true := hx 2 (by have h2 := tB h; omega)
    rw [e.2.1] at h1
    rw [e.2.2] at h2
    split
    . exact h1
    . exact h2
  rw [if_neg c3]
  by_cases c4 : t.op = 18
  . rw [if_pos c4]
    have h1 : wordP (k1 t).w (xAt x 1) = true := hx 1 (by have h2 := jC h; omega)
    have e := mJ h c4
    have := xV h0 h1 omG
    rwa [e] at this
  rw [if_neg c4]
  by_cases c5 : t.op = 19
  . rw [if_pos c5]
    have e := nB h c5
    exact xR h0 e.1 hw.1 omG
  rw [if_neg c5]
  exact iM h0 (nJ h omG) hw.2
/-! ### the rules -/
def j3 (op : Int) : Prop := op = 3 \/ op = 5 \/ op = 8 \/ op = 9 \/ op = 10 \/ op = 14
instance (op : Int) : Decidable (j3 op) := by unfold j3; infer_instance
abbrev onW (w : Int) : Int := 2 ^ w.toNat - 1
def oE (t : V.Term) : V.Term × Bool := if (k0 t).op = t.op then (k0 (k0 t), false) else (t, false)
def vF (t : V.Term) : V.Term × Bool :=
  if (k0 t).op = 0 /\ (k0 t).n = 1 then (k1 t, false)
  else if (k0 t).op = 0 then (k2 t, false)
  else if cmpT (k1 t) (k2 t) = 0 then (k1 t, false)
  else if (k0 t).op = 1 then (oT 17 t.w 0 [k0 (k0 t), k2 t, k1 t], true)
  else if t.w = 1 /\ ((k1 t).op = 0 /\ (k1 t).n = 1) /\ ((k2 t).op = 0 /\ (k2 t).n = 0) then (k0 t, false)
  else if t.w = 1 /\ ((k1 t).op = 0 /\ (k1 t).n = 0) /\ ((k2 t).op = 0 /\ (k2 t).n = 1) then (oT 1 1 0 [k0 t], true)
  else (t, false)
def wF (t : V.Term) : V.Term × Bool :=
  if t.n = 0 /\ t.w = (k0 t).w then (k0 t, false)
  else if (k0 t).op = 19 then (oT 19 t.w (t.n + (k0 t).n) [k0 (k0 t)], true)
  else if (k0 t).op = 18 /\ t.n + t.w <= (k1 (k0 t)).w then (oT 19 t.w t.n [k1 (k0 t)], true)
  else if (k0 t).op = 18 /\ (k1 (k0 t)).w <= t.n then (oT 19 t.w (t.n - (k1 (k0 t)).w) [k0 (k0 t)], true)
  else if ((k0 t).op = 20 \/ (k0 t).op = 21) /\ t.n + t.w <= (k0 (k0 t)).w then (oT 19 t.w t.n [k0 (k0 t)], true)
  else (t, false)
def tF (t : V.Term) : V.Term × Bool :=
  if t.w = (k0 t).w then (k0 t, false)
  else if (k0 t).op = t.op then (oT t.op t.w 0 [k0 (k0 t)], true)
  else (t, false)
def uF (t : V.Term) : V.Term × Bool :=
  if (k0 t).op = 19 /\ (k1 t).op = 19 /\ (k0 t).n = (k1 t).n + (k1 t).w /\ cmpT (k0 (k0 t)) (k0 (k1 t)) = 0 then (oT 19 t.w (k1 t).n [k0 (k1 t)], true)
  else (t, false)
def x5 (t : V.Term) : V.Term × Bool :=
  if j3 t.op /\ cmpT (k0 t) (k1 t) = 1 then (oT t.op t.w 0 [k1 t, k0 t], true)
  else if (k0 t).op = 0 /\ ((t.op = 3 /\ (k0 t).n = 0) \/ (t.op = 5 /\ (k0 t).n = 1) \/ (t.op = 8 /\ (k0 t).n = onW (k0 t).w) \/ (t.op = 9 /\ (k0 t).n = 0) \/ (t.op = 10 /\ (k0 t).n = 0) \/ (t.op = 14 /\ (k0 t).w = 1 /\ (k0 t).n = 1)) then (k1 t, false)
  else if (k0 t).op = 0 /\ ((t.op = 5 /\ (k0 t).n = 0) \/ (t.op = 8 /\ (k0 t).n = 0)) then (cT t.w 0, false)
  else if (k0 t).op = 0 /\ t.op = 9 /\ (k0 t).n = onW (k0 t).w then (cT t.w (onW (k0 t).w), false)
  else if (k0 t).op = 0 /\ ((t.op = 10 /\ (k0 t).n = onW (k0 t).w) \/ (t.op = 14 /\ (k0 t).w = 1 /\ (k0 t).n = 0)) then (oT 1 t.w 0 [k1 t], true)
  else if (k1 t).op = 0 /\ (k1 t).n = 0 /\ (t.op = 4 \/ t.op = 11 \/ t.op = 12 \/ t.op = 13) then (k0 t, false)
  else if (k1 t).op = 0 /\ (k1 t).n = 0 /\ t.op = 15 then (cT 1 0, false)
  else if cmpT (k0 t) (k1 t) = 0 /\ (t.op = 8 \/ t.op = 9) then (k0 t, false)
  else if cmpT (k0 t) (k1 t) = 0 /\ (t.op = 4 \/ t.op = 10 \/ t.op = 15 \/ t.op = 16) then (cT t.w 0, false)
  else if cmpT (k0 t) (k1 t) = 0 /\ t.op = 14 then (cT 1 1, false)
  else if (j3 t.op /\ t.op ≠ 14) /\ (k0 t).op = 0 /\ (k1 t).op = t.op /\ (k0 (k1 t)).op = 0 then (oT t.op t.w 0 [cT t.w (r3 t.op t.w (k0 t).n (k0 (k1 t)).n), k1 (k1 t)], true)
  else (t, false)
def u5 (t : V.Term) : V.Term × Bool :=
  if t.op = 1 \/ t.op = 2 then oE t
  else if t.op = 17 then vF t
  else if t.op = 19 then wF t
  else if t.op = 20 \/ t.op = 21 then tF t
  else if t.op = 18 then uF t
  else x5 t
def g5 (t : V.Term) : Nat := 2 * sizeT t + (if j3 t.op /\ cmpT (k0 t) (k1 t) = 1 then 1 else 0)
theorem aG {x t : V.Term} (h : sizeT x < sizeT t) : g5 x < g5 t := by
  unfold g5
  split <;> split <;> omega
theorem uI (t : V.Term) : sizeT t = 1 + a6 t.kids := by cases t; rw [sizeT]
section
variable {t : V.Term}
theorem qG (h : okT t = true) (ho : t.op = 1 \/ t.op = 2 \/ t.op = 19 \/ t.op = 20 \/ t.op = 21) : sizeT t = 1 + sizeT (k0 t) := by
  rw [uI, ks1 (lD h ho)]; simp [a6]
theorem wI (h : okT t = true) (ho : (3 <= t.op /\ t.op <= 16) \/ t.op = 18) : sizeT t = 1 + (sizeT (k0 t) + sizeT (k1 t)) := by
  rw [uI, ks2 (jC h ho)]; simp [a6]
theorem sz_i (h : okT t = true) (ho : t.op = 17) : sizeT t = 1 + (sizeT (k0 t) + (sizeT (k1 t) + sizeT (k2 t))) := by
  rw [uI, ks3 (tB h ho)]; simp [a6]
end
theorem iH {op w n : Int} {a : V.Term} : sizeT (oT op w n [a]) = 1 + sizeT a := by simp [sizeT, a6]
theorem sz_2 {op w n : Int} {a b : V.Term} : sizeT (oT op w n [a, b]) = 1 + (sizeT a + sizeT b) := by simp [sizeT, a6]
theorem sz_3 {op w n : Int} {a b c : V.Term} : sizeT (oT op w n [a, b, c]) = 1 + (sizeT a + (sizeT b + sizeT c)) := by simp [sizeT, a6]
theorem sz_c {w n : Int} : sizeT (cT w n) = 1 := by simp [sizeT, a6]
theorem t6 {α : Type} {a x : α} {P : Prop} (h : (a, false) = (x, true)) : P := by simp at h
theorem nA {α : Type} {a x : α} (h : (a, true) = (x, true)) : x = a := by simp at h; exact h.symm
theorem fit_bS {op w : Int} {a b : V.Term} (h : oA op w 0 [a, b] = true) (ho : 3 <= op /\ op <= 13 \/ op = 14) : oA op w 0 [b, a] = true := by
  unfold oA at h ⊢
  rw [if_neg omG, if_neg omG] at h ⊢
  rcases ho with ho | ho
  . rw [if_pos ho] at h ⊢
    rw [Bool.and_comm]; exact h
  . rw [if_neg omG, if_pos omG] at h ⊢
    simp only [Bool.and_eq_true, decide_eq_true_eq] at h ⊢
    exact ⟨h.1.symm, h.2⟩
theorem g4 {α : Type} {p : Prop} [Decidable p] {a b x : α} (h : (if p then a else b) = x) : (p /\ a = x) \/ (¬ p /\ b = x) := by
  by_cases hp : p
  . rw [if_pos hp] at h; exact .inl ⟨hp, h⟩
  . rw [if_neg hp] at h; exact .inr ⟨hp, h⟩
theorem m9 {t x : V.Term} (h : okT t = true) (ho : 1 <= t.op /\ t.op <= 21) (hr : u5 t = (x, true)) : okT x = true /\ g5 x < g5 t := by
  have hw := d8 h
  have a0 := ok0 h ho
  unfold u5 at hr
  by_cases c1 : t.op = 1 \/ t.op = 2
  . rw [if_pos c1] at hr
    unfold oE at hr
    rcases g4 hr with ⟨_, hr⟩ | ⟨_, hr⟩ <;> exact t6 hr
  rw [if_neg c1] at hr
  by_cases c2 : t.op = 17
  . rw [if_pos c2] at hr
    have a1 := r4 h omG
    have a2 := ok2 h omG
    have e := bO h c2
    have es := sz_i h c2
    unfold vF at hr
    rcases g4 hr with ⟨c, hr⟩ | ⟨c, hr⟩
    . exact t6 hr
    rcases g4 hr with ⟨c, hr⟩ | ⟨c, hr⟩
    . exact t6 hr
    rcases g4 hr with ⟨c, hr⟩ | ⟨c, hr⟩
    . exact t6 hr
    rcases g4 hr with ⟨c, hr⟩ | ⟨c, hr⟩
    . obtain rfl := nA hr
      have f := cF a0 (.inl c)
      have s := qG a0 (.inl c)
      refine ⟨mk_i (ok0 a0 omG) a2 a1 hw ?_, aG ?_⟩
      . show (decide ((k0 (k0 t)).w = 1) && decide ((k2 t).w = t.w) && decide ((k1 t).w = t.w)) = true
        simp only [Bool.and_eq_true, decide_eq_true_eq]
        exact ⟨⟨by omega, e.2.2⟩, e.2.1⟩
      . rw [sz_3]; omega
    rcases g4 hr with ⟨c, hr⟩ | ⟨c, hr⟩
    . exact t6 hr
    rcases g4 hr with ⟨c, hr⟩ | ⟨c, hr⟩
    . obtain rfl := nA hr
      refine ⟨wH a0 omG omG (fun _ => rfl) ?_, aG ?_⟩
      . show decide ((k0 t).w = 1) = true
        exact decide_eq_true e.1
      . rw [iH]
        have := kH (k1 t)
        omega
    . exact t6 hr
  rw [if_neg c2] at hr
  by_cases c3 : t.op = 19
  . rw [if_pos c3] at hr
    have e := nB h c3
    have es := qG h omG
    unfold wF at hr
    rcases g4 hr with ⟨c, hr⟩ | ⟨c, hr⟩
    . exact t6 hr
    rcases g4 hr with ⟨c, hr⟩ | ⟨c, hr⟩
    . obtain rfl := nA hr
      have f := nB a0 c
      have s := qG a0 omG
      refine ⟨wH (ok0 a0 omG) hw omG (fun e => absurd rfl e) ?_, aG (by rw [iH]; omega)⟩
      show (decide (0 <= t.n + (k0 t).n) && decide (t.n + (k0 t).n <= (k0 (k0 t)).w - t.w)) = true
      simp only [Bool.and_eq_true, decide_eq_true_eq]
      omega
    rcases g4 hr with ⟨c, hr⟩ | ⟨c, hr⟩
    . obtain rfl := nA hr
      have f := mJ a0 c.1
      have s := wI a0 (.inr c.1)
      refine ⟨wH (r4 a0 omG) hw omG (fun e => absurd rfl e) ?_, aG (by rw [iH]; omega)⟩
      show (decide (0 <= t.n) && decide (t.n <= (k1 (k0 t)).w - t.w)) = true
      simp only [Bool.and_eq_true, decide_eq_true_eq]
      omega
    rcases g4 hr with ⟨c, hr⟩ | ⟨c, hr⟩
    . obtain rfl := nA hr
      have f := mJ a0 c.1
      have s := wI a0 (.inr c.1)
      refine ⟨wH (ok0 a0 omG) hw omG (fun e => absurd rfl e) ?_, aG (by rw [iH]; omega)⟩
      show (decide (0 <= t.n - (k1 (k0 t)).w) && decide (t.n - (k1 (k0 t)).w <= (k0 (k0 t)).w - t.w)) = true
      simp only [Bool.and_eq_true, decide_eq_true_eq]
      omega
    rcases g4 hr with ⟨c, hr⟩ | ⟨c, hr⟩
    . obtain rfl := nA hr
      have s := qG a0 omG
      refine ⟨wH (ok0 a0 omG) hw omG (fun e => absurd rfl e) ?_, aG (by rw [iH]; omega)⟩
      show (decide (0 <= t.n) && decide (t.n <= (k0 (k0 t)).w - t.w)) = true
      simp only [Bool.and_eq_true, decide_eq_true_eq]
      omega
    . exact t6 hr
  rw [if_neg c3] at hr
  by_cases c4 : t.op = 20 \/ t.op = 21
  . rw [if_pos c4] at hr
    have e := nJ h c4
    have es := qG h omG
    unfold tF at hr
    rcases g4 hr with ⟨c, hr⟩ | ⟨c, hr⟩
    . exact t6 hr
    rcases g4 hr with ⟨c, hr⟩ | ⟨c, hr⟩
    . obtain rfl := nA hr
      have f := nJ a0 omG
      have s := qG a0 omG
      refine ⟨wH (ok0 a0 omG) hw omG (fun _ => rfl) ?_, aG (by rw [iH]; omega)⟩
      unfold oA
      rw [if_neg omG, if_neg omG, if_neg omG, if_neg omG, if_neg omG, if_neg omG, if_neg omG]
      show decide ((k0 (k0 t)).w <= t.w) = true
      exact decide_eq_true omG
    . exact t6 hr
  rw [if_neg c4] at hr
  have a1 := r4 h omG
  by_cases c5 : t.op = 18
  . rw [if_pos c5] at hr
    have e := mJ h c5
    have es := wI h (.inr c5)
    unfold uF at hr
    rcases g4 hr with ⟨c, hr⟩ | ⟨c, hr⟩
    . obtain rfl := nA hr
      have f0 := nB a0 c.1
      have f := nB a1 c.2.1
      have s := qG a1 omG
      have s0 := qG a0 omG
      have hx : (k0 (k0 t)).w = (k0 (k1 t)).w := by
        have := c.2.2.2
        rw [vJ] at this
        by_cases q1 : o4 (k0 (k0 t)).op (k0 (k1 t)).op ≠ 0
        . rw [if_pos q1] at this; exact absurd this q1
        rw [if_neg q1] at this
        by_cases q2 : o4 (k0 (k0 t)).w (k0 (k1 t)).w ≠ 0
        . rw [if_pos q2] at this; exact absurd this q2
        . have q3 : o4 (k0 (k0 t)).w (k0 (k1 t)).w = 0 := by omega
          unfold o4 at q3
          split at q3
          . omega
          . split at q3 <;> omega
      refine ⟨wH (ok0 a1 omG) hw omG (fun e => absurd rfl e) ?_, aG (by rw [iH]; omega)⟩
      show (decide (0 <= (k1 t).n) && decide ((k1 t).n <= (k0 (k1 t)).w - t.w)) = true
      simp only [Bool.and_eq_true, decide_eq_true_eq]
      omega
    . exact t6 hr
  rw [if_neg c5] at hr
  have es := wI h omG
  unfold x5 at hr
  rcases g4 hr with ⟨c, hr⟩ | ⟨c, hr⟩
  . obtain rfl := nA hr
    have hs := c.1
    unfold j3 at hs
    have hf := (x9 h).fit
    rw [jQ h omG omG, ks2 (jC h omG)] at hf
    refine ⟨mk_b a1 a0 hw omG (fit_bS hf omG), ?_⟩
    unfold g5
    rw [if_pos c, if_neg (fun q => by
      have q2 : cmpT (k1 t) (k0 t) = 1 := q.2
      rw [qfo] at q2
      omega), sz_2]
    omega
  rcases g4 hr with ⟨c, hr⟩ | ⟨c, hr⟩
  . exact t6 hr
  rcases g4 hr with ⟨c, hr⟩ | ⟨c, hr⟩
  . exact t6 hr
  rcases g4 hr with ⟨c, hr⟩ | ⟨c, hr⟩
  . exact t6 hr
  rcases g4 hr with ⟨c, hr⟩ | ⟨c, hr⟩
  . obtain rfl := nA hr
    refine ⟨wH a1 hw omG (fun _ => rfl) ?_, aG ?_⟩
    . show decide ((k1 t).w = t.w) = true
      rcases c.2 with q | q
      . exact decide_eq_true (fit_b h omG).2
      . have := fI h omG
        exact decide_eq_true omG
    . rw [iH]
      have := kH (k0 t)
      omega
  rcases g4 hr with ⟨c, hr⟩ | ⟨c, hr⟩
  . exact t6 hr
  rcases g4 hr with ⟨c, hr⟩ | ⟨c, hr⟩
  . exact t6 hr
  rcases g4 hr with ⟨c, hr⟩ | ⟨c, hr⟩
  . exact t6 hr
  rcases g4 hr with ⟨c, hr⟩ | ⟨c, hr⟩
  . exact t6 hr
  rcases g4 hr with ⟨c, hr⟩ | ⟨c, hr⟩
  . exact t6 hr
  rcases g4 hr with ⟨c, hr⟩ | ⟨c, hr⟩
  . obtain rfl := nA hr
    have hs := c.1.1
    have hs2 := c.1.2
    unfold j3 at hs
    have e := fit_b h omG
    have f := fit_b a1 omG
    have b0 := ok0 a1 omG
    have s := wI a1 omG
    have w0 := const_w a0 c.2.1
    have w1 := const_w b0 c.2.2.2
    have e1 : (k0 t).w = t.w := e.1
    have e2 : (k0 (k1 t)).w = t.w := by rw [f.1]; exact e.2
    rw [e1] at w0
    rw [e2] at w1
    have hk := rB (sO (op := t.op) omG w0 w1)
    refine ⟨mk_b hk (r4 a1 omG) hw omG ?_, aG ?_⟩
    . unfold oA
      rw [if_neg omG, if_neg omG, if_pos omG]
      show (decide (t.w = t.w) && decide ((k1 (k1 t)).w = t.w)) = true
      simp only [Bool.and_eq_true, decide_eq_true_eq]
      exact ⟨trivial, by rw [f.2]; exact e.2⟩
    . rw [sz_2, sz_c]
      have := kH (k0 t)
      have := kH (k0 (k1 t))
      omega
  . exact t6 hr
/-! ### all rules, one after the other -/
def y4 (ks : List V.Term) : Bool := ks.all fun k => decide (k.op = 0)
abbrev nums (ks : List V.Term) : List Int := ks.map (·.n)
def bA : Nat -> V.Term -> V.Term
  | 0, t => t
  | f + 1, t => if t.kids.length = 0 then t else if y4 t.kids = true then cT t.w (m6 t (nums t.kids)) else if (u5 t).2 = true then bA f (u5 t).1 else (u5 t).1
def p3 (t : V.Term) : V.Term := bA (g5 t + 1) t
theorem qcd : ∀ (f g : Nat) (t : V.Term), okT t = true -> g5 t < f -> g5 t < g -> bA f t = bA g t
  | 0, _, _, _, h, _ => by omega
  | _, 0, _, _, _, h => by omega
  | f + 1, g + 1, t, h, hf, hg => by
    rw [bA, bA]
    by_cases c1 : t.kids.length = 0
    . rw [if_pos c1, if_pos c1]
    rw [if_neg c1, if_neg c1]
    by_cases c2 : y4 t.kids = true
    . rw [if_pos c2, if_pos c2]
    rw [if_neg c2, if_neg c2]
    by_cases c3 : (u5 t).2 = true
    . rw [if_pos c3, if_pos c3]
      have ho : 1 <= t.op /\ t.op <= 21 := rH h (fun e => c1 (by rw [e]; rfl))
      have := m9 (x := (u5 t).1) h ho (Prod.ext rfl c3)
      exact qcd f g _ this.1 omG omG
    . rw [if_neg c3, if_neg c3]
section
variable {t x : V.Term}
theorem qca (h : t.kids.length = 0) : p3 t = t := by unfold p3; rw [bA, if_pos h]
theorem qQ (h : t.kids.length ≠ 0) (hc : y4 t.kids = true) : p3 t = cT t.w (m6 t (nums t.kids)) := by unfold p3; rw [bA, if_neg h, if_pos hc]
theorem qj7 (h : t.kids.length ≠ 0) (hc : y4 t.kids = false) (hr : u5 t = (x, false)) : p3 t = x := by
  unfold p3
  rw [bA, if_neg h, if_neg (by rw [hc]; decide), hr, if_neg Bool.false_ne_true]
theorem qj8 (ht : okT t = true) (h : t.kids.length ≠ 0) (hc : y4 t.kids = false) (hr : u5 t = (x, true)) : p3 t = p3 x := by
  have ho : 1 <= t.op /\ t.op <= 21 := rH ht (fun e => h (by rw [e]; rfl))
  obtain ⟨h1, h2⟩ := m9 ht ho hr
  have e : p3 t = bA (g5 t) x := by
    show bA (g5 t + 1) t = _
    rw [bA, if_neg h, if_neg (by rw [hc]; decide), hr, if_pos rfl]
  rw [e]
  exact qcd _ _ _ h1 omG omG
end
end Vg
