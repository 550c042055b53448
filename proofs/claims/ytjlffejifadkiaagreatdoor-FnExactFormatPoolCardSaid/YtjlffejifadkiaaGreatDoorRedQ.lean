/- What the machine's operations hand back are words. No condition. -/
import Derived.Test.YtjlffejifadkiaaGreatDoorWords
import Derived.Test.YtjlffejifadkiaaGreatDoorTermQ
import Derived.Lib.Strings
import Derived.Test.YtjlffejifadkiaaGreatDoorTermI
namespace Vg
open Go Go.Proofs
theorem qfr {a : Int} (h0 : 0 ≤ a) (h1 : a < 65536) : (BitVec.ofInt IntKind.i64.bits a).toNat = a.toNat := by
  have hb : IntKind.i64.bits = 64 := rfl
  rw [BitVec.toNat_ofInt, hb]
  have : a % ((2 ^ 64 : Nat) : Int) = a := Int.emod_eq_of_lt h0 omG
  rw [this]
theorem qb8 {w : Int} (n : Int) (h : inP w 1 16 = true) : wordP w (qbu w n) = true := by
  have F := wf h
  have h2 := F.s2
  have h3 := F.s3
  unfold qbu
  rw [if_pos h]
  have e1 : (BitVec.ofInt IntKind.i64.bits n &&& BitVec.ofInt IntKind.i64.bits (2 ^ w.toNat - 1)).toNat ≤ ((2 : Int) ^ w.toNat - 1).toNat := by
    rw [BitVec.toNat_and, qfr (a := 2 ^ w.toNat - 1) omG omG]
    exact Nat.and_le_right
  generalize (BitVec.ofInt IntKind.i64.bits n &&& BitVec.ofInt IntKind.i64.bits (2 ^ w.toNat - 1)).toNat = m at e1
  rw [qac omG omG]
  exact qcx h omG omG
theorem qoo (k : Nat) : ((2 : Int) ^ k).toNat = 2 ^ k := by
  have : ((2 : Int) ^ k) = ((2 ^ k : Nat) : Int) := by simp
  rw [this]; rfl
theorem qjn {w : Int} {a b : Int} (ha : wordP w a = true) (hb : wordP w b = true) (f : Nat → Nat → Nat) (hf : ∀ x y n, x < 2 ^ n → y < 2 ^ n → f x y < 2 ^ n)
    {v : Nat} (hv : v = f (BitVec.ofInt IntKind.i64.bits a).toNat (BitVec.ofInt IntKind.i64.bits b).toNat) : wordP w (IntKind.i64.wrap (v : Nat)) = true := by
  obtain ⟨hw, a0, a1⟩ := qas ha
  obtain ⟨_, b0, b1⟩ := qas hb
  have F := wf hw
  have h2 := F.s2
  rw [qfr a0 omG, qfr b0 omG] at hv
  have e := qoo w.toNat
  have := hf a.toNat b.toNat w.toNat omG omG
  subst hv
  generalize f a.toNat b.toNat = m at this
  rw [qac omG omG]
  exact qcx hw omG omG
theorem qcy {w : Int} (h : inP w 1 16 = true) (b : Bool) : wordP w (qct b) = true := by
  have F := wf h
  have h3 := F.s3
  cases b
  · exact qcx h (by decide) (by show (0 : Int) < _; omega)
  · exact qcx h (by decide) (by show (1 : Int) < _; omega)
theorem zero_word {w : Int} (h : inP w 1 16 = true) : wordP w 0 = true := qcy h false
theorem qf4 {op w a b : Int} (ho : 3 ≤ op ∧ op ≤ 16) (ha : wordP w a = true) (hb : wordP w b = true) : wordP w (qa2 op w a b) = true := by
  obtain ⟨hw, a0, a1⟩ := qas ha
  obtain ⟨_, b0, b1⟩ := qas hb
  have F := wf hw
  have h2 := F.s2
  have h3 := F.s3
  unfold qa2
  rw [if_pos (by simp [ha, hb])]
  have cases_op : op = 3 ∨ op = 4 ∨ op = 5 ∨ op = 6 ∨ op = 7 ∨ op = 8 ∨ op = 9 ∨ op = 10 ∨ op = 11 ∨ op = 12 ∨ op = 13 ∨ op = 14 ∨ op = 15 ∨ op = 16 := by omega
  have hsh : wordP w (qc6 op w a b) = true := by
    unfold qc6
    by_cases h13 : op = 13
    · rw [if_pos h13]; exact qb8 _ hw
    rw [if_neg h13]
    by_cases hwb : w ≤ b
    · rw [if_pos hwb]; exact zero_word hw
    rw [if_neg hwb]
    by_cases h11 : op = 11
    · rw [if_pos h11]; exact qb8 _ hw
    rw [if_neg h11]
    have hp : (0 : Int) < 2 ^ min b.toNat IntKind.i64.bits := Int.pow_pos (by decide)
    rw [Int.fdiv_eq_ediv_of_nonneg _ (Int.le_of_lt hp)]
    have e1 := Int.ediv_nonneg a0 (Int.le_of_lt hp)
    have e2 : a / 2 ^ min b.toNat IntKind.i64.bits ≤ a := Int.ediv_le_self _ a0
    exact qcx hw e1 omG
  have hdiv : wordP w (if b = 0 then 2 ^ w.toNat - 1 else IntKind.i64.wrap (a.tdiv b)) = true := by
    by_cases hb0 : b = 0
    · rw [if_pos hb0]; exact qcx hw omG omG
    · rw [if_neg hb0]
      have e1 : 0 ≤ a.tdiv b := Int.tdiv_nonneg a0 b0
      have e2 : a.tdiv b ≤ a := by
        rw [Int.tdiv_eq_ediv_of_nonneg a0]
        exact Int.ediv_le_self b a0
      rw [qac omG omG]
      exact qcx hw e1 omG
  have hrem : wordP w (if b = 0 then a else a.tmod b) = true := by
    by_cases hb0 : b = 0
    · rw [if_pos hb0]; exact ha
    · rw [if_neg hb0]
      have e1 : 0 ≤ a.tmod b := Int.tmod_nonneg b a0
      have e2 : a.tmod b < b := Int.tmod_lt_of_pos a omG
      exact qcx hw e1 omG
  have hand := qjn ha hb (· &&& ·) (fun x y n hx _ => Nat.lt_of_le_of_lt Nat.and_le_left hx) (v := (BitVec.ofInt IntKind.i64.bits a &&& BitVec.ofInt IntKind.i64.bits b).toNat) (by rw [BitVec.toNat_and])
  have hor := qjn ha hb (· ||| ·) (fun x y n hx hy => Nat.or_lt_two_pow hx hy) (v := (BitVec.ofInt IntKind.i64.bits a ||| BitVec.ofInt IntKind.i64.bits b).toNat) (by rw [BitVec.toNat_or])
  have hxor := qjn ha hb (· ^^^ ·) (fun x y n hx hy => Nat.xor_lt_two_pow hx hy) (v := (BitVec.ofInt IntKind.i64.bits a ^^^ BitVec.ofInt IntKind.i64.bits b).toNat) (by rw [BitVec.toNat_xor])
  generalize IntKind.i64.wrap (BitVec.ofInt IntKind.i64.bits a &&& BitVec.ofInt IntKind.i64.bits b).toNat = v1 at hand ⊢
  generalize IntKind.i64.wrap (BitVec.ofInt IntKind.i64.bits a ||| BitVec.ofInt IntKind.i64.bits b).toNat = v2 at hor ⊢
  generalize IntKind.i64.wrap (BitVec.ofInt IntKind.i64.bits a ^^^ BitVec.ofInt IntKind.i64.bits b).toNat = v3 at hxor ⊢
  generalize (if b = 0 then 2 ^ w.toNat - 1 else IntKind.i64.wrap (a.tdiv b)) = v4 at hdiv ⊢
  generalize (if b = 0 then a else a.tmod b) = v5 at hrem ⊢
  generalize hv6 : qc6 op w a b = v6 at hsh ⊢
  have t1 := qcy hw (a == b)
  have t2 := qcy hw (decide (a < b))
  have t3 := qcy hw (decide (qby w a < qby w b))
  have m1 := qb8 (IntKind.i64.wrap (a + b)) hw
  have m2 := qb8 (IntKind.i64.wrap (a - b)) hw
  have m3 := qb8 (IntKind.i64.wrap (a * b)) hw
  rcases cases_op with rfl | rfl | rfl | rfl | rfl | rfl | rfl | rfl | rfl | rfl | rfl | rfl | rfl | rfl <;> first | exact m1 | exact m2 | exact m3 | exact hdiv | exact hrem | exact hand | exact hor | exact hxor | exact hsh | exact t1 | exact t2 | exact t3
theorem qpm {w a : Int} (ha : wordP w a = true) : wordP w (qdg 1 w a) = true := by
  obtain ⟨hw, a0, a1⟩ := qas ha
  unfold qdg
  rw [if_pos ha, if_pos rfl]
  exact qcx hw omG omG
end Vg

namespace Vg
open Go Go.Proofs
/-! ### strings in order -/
theorem bl_eq : ∀ (x y : List UInt8), Op.bytesLess x y = decide (x < y)
  | [], [] => by simp [Op.bytesLess]
  | _ :: _, [] => by simp [Op.bytesLess]
  | [], _ :: _ => by simp [Op.bytesLess]
  | a :: x, b :: y => by
    rw [Op.bytesLess, bl_eq x y]
    simp only [List.cons_lt_cons_iff]
    by_cases h1 : a < b <;> by_cases h2 : a = b <;> by_cases h3 : x < y <;> simp [h1, h2, h3]
def qbw (a b : ByteArray) : Bool := Op.bytesLess a.toList b.toList
theorem qd4 {a b : ByteArray} : qbw a b = true ↔ a.data.toList < b.data.toList := by
  unfold qbw
  rw [bl_eq, Lib.toList_data, Lib.toList_data, decide_eq_true_iff]
theorem ba_ext {a b : ByteArray} (h : a.data.toList = b.data.toList) : a = b := ByteArray.ext (Array.ext' h)
theorem qex (a : ByteArray) : qbw a a = false := by
  rw [Bool.eq_false_iff]
  intro h
  exact List.lt_irrefl _ (qd4.1 h)
theorem qlf {a b c : ByteArray} (h1 : qbw a b = true) (h2 : qbw b c = true) : qbw a c = true := qd4.2 (List.lt_trans (qd4.1 h1) (qd4.1 h2))
theorem sLess_as {a b : ByteArray} (h : qbw a b = true) : qbw b a = false := by
  rw [Bool.eq_false_iff]
  intro h2
  have := qlf h h2
  rw [qex] at this
  cases this
theorem qis {a b : ByteArray} (hn : a ≠ b) (h : qbw a b = false) : qbw b a = true := by
  rw [Bool.eq_false_iff] at h
  refine qd4.2 ?_
  have h1 : ¬ a.data.toList < b.data.toList := fun k => h (qd4.2 k)
  rcases List.le_iff_lt_or_eq.1 (List.not_lt.1 h1) with h2 | h2
  · exact h2
  · exact absurd (ba_ext h2.symm) hn
/-! ### numbers and terms in order -/
def sgn (a b : Int) : Int := if a < b then -1 else if b < a then 1 else 0
def qg7 (a b : ByteArray) : Int := if qbw a b = true then -1 else if qbw b a = true then 1 else 0
theorem qod (a b : Int) : sgn b a = - sgn a b := by
  unfold sgn
  split <;> split <;> omega
theorem sgn_r (a b : Int) : sgn a b = -1 ∨ sgn a b = 0 ∨ sgn a b = 1 := by
  unfold sgn
  split
  · exact .inl rfl
  · split
    · exact .inr (.inr rfl)
    · exact .inr (.inl rfl)
theorem scmp_neg (a b : ByteArray) : qg7 b a = - qg7 a b := by
  unfold qg7
  by_cases h1 : qbw a b = true
  · rw [if_pos h1, if_neg (by rw [sLess_as h1]; decide), if_pos h1]; rfl
  · by_cases h2 : qbw b a = true
    · rw [if_pos h2, if_neg h1, if_pos h2]
    · rw [if_neg h1, if_neg h2, if_neg h2, if_neg h1]; rfl
theorem scmp_r (a b : ByteArray) : qg7 a b = -1 ∨ qg7 a b = 0 ∨ qg7 a b = 1 := by
  unfold qg7
  split
  · exact .inl rfl
  · split
    · exact .inr (.inr rfl)
    · exact .inr (.inl rfl)
theorem scmp_self (a : ByteArray) : qg7 a a = 0 := by
  unfold qg7
  rw [if_neg (by rw [qex]; decide), if_neg (by rw [qex]; decide)]
theorem scmp_lt {a b : ByteArray} (h : qbw a b = true) : qg7 a b = -1 := by unfold qg7; rw [if_pos h]
theorem scmp_gt {a b : ByteArray} (hn : a ≠ b) (h : qbw a b = false) : qg7 a b = 1 := by
  unfold qg7
  rw [if_neg (by rw [h]; decide), if_pos (qis hn h)]
mutual
def cmpT : V.Term → V.Term → Int
  | ⟨o, w, n, nm, ks⟩, b => if sgn o b.op ≠ 0 then sgn o b.op else if sgn w b.w ≠ 0 then sgn w b.w else if sgn n b.n ≠ 0 then sgn n b.n else if qg7 nm b.name ≠ 0 then qg7 nm b.name else qdj ks b.kids
def qdj : List V.Term → List V.Term → Int
  | [], [] => 0
  | [], _ :: _ => -1
  | _ :: _, [] => 1
  | a :: xs, b :: ys => if cmpT a b ≠ 0 then cmpT a b else qdj xs ys
end
theorem qf1 (a b : V.Term) : cmpT a b = if sgn a.op b.op ≠ 0 then sgn a.op b.op else if sgn a.w b.w ≠ 0 then sgn a.w b.w else if sgn a.n b.n ≠ 0 then sgn a.n b.n else if qg7 a.name b.name ≠ 0 then qg7 a.name b.name else qdj a.kids b.kids := by
  cases a; rw [cmpT]
mutual
theorem cmpT_neg : ∀ (a b : V.Term), cmpT b a = - cmpT a b
  | ⟨o, w, n, nm, ks⟩, b => by
    rw [qf1 b, cmpT]
    simp only
    rw [qod o, qod w, qod n, scmp_neg nm, qnz ks b.kids]
    simp only [ne_eq, Int.neg_eq_zero]
    split
    · rfl
    · split
      · rfl
      · split
        · rfl
        · split <;> rfl
theorem qnz : ∀ (a b : List V.Term), qdj b a = - qdj a b
  | [], [] => by simp only [qdj]; rfl
  | [], _ :: _ => by simp only [qdj]; rfl
  | _ :: _, [] => by simp only [qdj]
  | a :: xs, b :: ys => by
    simp only [qdj]
    rw [cmpT_neg a b, qnz xs ys]
    simp only [ne_eq, Int.neg_eq_zero]
    split <;> rfl
end
mutual
theorem cmpT_r : ∀ (a b : V.Term), cmpT a b = -1 ∨ cmpT a b = 0 ∨ cmpT a b = 1
  | ⟨o, w, n, nm, ks⟩, b => by
    rw [cmpT]
    split
    · exact sgn_r _ _
    · split
      · exact sgn_r _ _
      · split
        · exact sgn_r _ _
        · split
          · exact scmp_r _ _
          · exact cmpTs_r _ _
theorem cmpTs_r : ∀ (a b : List V.Term), qdj a b = -1 ∨ qdj a b = 0 ∨ qdj a b = 1
  | [], [] => .inr (.inl (by simp only [qdj]))
  | [], _ :: _ => .inl (by simp only [qdj])
  | _ :: _, [] => .inr (.inr (by simp only [qdj]))
  | a :: xs, b :: ys => by
    simp only [qdj]
    split
    · exact cmpT_r a b
    · exact cmpTs_r xs ys
end
/-! ### kid by kid -/
structure CmpI (a b : V.Term) (i : Nat) : Prop where
  la : i ≤ a.kids.length
  lb : i ≤ b.kids.length
  eq : cmpT a b = qdj (a.kids.drop i) (b.kids.drop i)
theorem qhm {l : List V.Term} {i : Nat} (h : (i : Int) < l.length) : l.drop i = kAt l i :: l.drop (i + 1) := by
  have hi : i < l.length := by omega
  rw [List.drop_eq_getElem_cons hi]
  congr 1
  rw [kAt, List.getD_eq_getElem?_getD, List.getElem?_eq_getElem hi]; rfl
section
variable {a b : V.Term} {i : Nat}
theorem cmpI_0 (h1 : ¬ sgn a.op b.op ≠ 0) (h2 : ¬ sgn a.w b.w ≠ 0) (h3 : ¬ sgn a.n b.n ≠ 0) (h4 : ¬ qg7 a.name b.name ≠ 0) : CmpI a b 0 := by
  refine ⟨Nat.zero_le _, Nat.zero_le _, ?_⟩
  rw [qf1, if_neg h1, if_neg h2, if_neg h3, if_neg h4]; rfl
theorem cmpI_s (h : CmpI a b i) (h1 : (i : Int) < a.kids.length) (h2 : (i : Int) < b.kids.length) (h0 : ¬ cmpT (kAt a.kids i) (kAt b.kids i) ≠ 0) : CmpI a b (i + 1) := by
  refine ⟨by omega, by omega, ?_⟩
  rw [h.eq, qhm h1, qhm h2, qdj, if_neg h0]
theorem cmpI_f (h : CmpI a b i) (h1 : (i : Int) < a.kids.length) (h2 : (i : Int) < b.kids.length) (h0 : cmpT (kAt a.kids i) (kAt b.kids i) ≠ 0) : cmpT a b = cmpT (kAt a.kids i) (kAt b.kids i) := by
  rw [h.eq, qhm h1, qhm h2, qdj, if_pos h0]
theorem cmpI_e (h : CmpI a b i) (h1 : ¬ ((i : Int) < a.kids.length ∧ (i : Int) < b.kids.length)) : cmpT a b = sgn a.kids.length b.kids.length := by
  have e1 := h.la
  have e2 := h.lb
  rw [h.eq]
  by_cases ha : (i : Int) < a.kids.length
  · have hb : b.kids.drop i = [] := List.drop_of_length_le omG
    rw [qhm ha, hb, qdj]
    unfold sgn
    rw [if_neg omG, if_pos omG]
  · have ha' : a.kids.drop i = [] := List.drop_of_length_le omG
    rw [ha']
    by_cases hb : (i : Int) < b.kids.length
    · rw [qhm hb, qdj]
      unfold sgn
      rw [if_pos omG]
    · have hb' : b.kids.drop i = [] := List.drop_of_length_le omG
      rw [hb', qdj]
      unfold sgn
      rw [if_neg omG, if_neg omG]
end
theorem cmp_op {a b : V.Term} (h : sgn a.op b.op ≠ 0) : cmpT a b = sgn a.op b.op := by rw [qf1, if_pos h]
theorem cmp_w {a b : V.Term} (h1 : ¬ sgn a.op b.op ≠ 0) (h : sgn a.w b.w ≠ 0) : cmpT a b = sgn a.w b.w := by rw [qf1, if_neg h1, if_pos h]
theorem cmp_n {a b : V.Term} (h1 : ¬ sgn a.op b.op ≠ 0) (h2 : ¬ sgn a.w b.w ≠ 0) (h : sgn a.n b.n ≠ 0) : cmpT a b = sgn a.n b.n := by rw [qf1, if_neg h1, if_neg h2, if_pos h]
theorem cmp_nm {a b : V.Term} (h1 : ¬ sgn a.op b.op ≠ 0) (h2 : ¬ sgn a.w b.w ≠ 0) (h3 : ¬ sgn a.n b.n ≠ 0) (h : qg7 a.name b.name ≠ 0) : cmpT a b = qg7 a.name b.name := by rw [qf1, if_neg h1, if_neg h2, if_neg h3, if_pos h]
end Vg

namespace Vg
open Go Go.Proofs
abbrev cT (w n : Int) : V.Term := ⟨0, w, n, ByteArray.empty, []⟩
abbrev oT (op w n : Int) (ks : List V.Term) : V.Term := ⟨op, w, n, ByteArray.empty, ks⟩
/-! ### what is known of a good term -/
theorem qhs (t : V.Term) : okT t = (qha t.op t.w t.n t.name t.kids && (!decide (t.op = 22) || isNameP t.name) && okTs t.kids) := by cases t; rw [okT]
theorem qdt : ∀ {ks : List V.Term} {i : Nat}, okTs ks = true → i < ks.length → okT (kAt ks i) = true
  | t :: ts, 0, h, _ => by rw [okTs, Bool.and_eq_true] at h; exact h.1
  | t :: ts, i + 1, h, hi => by rw [okTs, Bool.and_eq_true] at h; exact qdt (ks := ts) (i := i) h.2 (by simpa using hi)
theorem qdv {t : V.Term} (h : okT t = true) : NodeOk t.op t.w t.n t.name t.kids := by
  rw [qhs, Bool.and_eq_true, Bool.and_eq_true] at h
  exact qdn.1 h.1.1
theorem okT_ks {t : V.Term} (h : okT t = true) : okTs t.kids = true := by
  rw [qhs, Bool.and_eq_true] at h
  exact h.2
theorem okT_k {t : V.Term} {i : Nat} (h : okT t = true) (hi : i < t.kids.length) : okT (kAt t.kids i) = true := qdt (okT_ks h) hi
theorem okT_of {op w n : Int} {ks : List V.Term} (h : NodeOk op w n ByteArray.empty ks) (ho : op ≠ 22) (hk : okTs ks = true) : okT (oT op w n ks) = true := by
  rw [qhs, Bool.and_eq_true, Bool.and_eq_true]
  exact ⟨⟨qdn.2 h, by simp [ho]⟩, hk⟩
theorem inP_iff {n lo hi : Int} : inP n lo hi = true ↔ lo ≤ n ∧ n ≤ hi := by simp [inP]
theorem qdu {t : V.Term} (h : okT t = true) : 1 ≤ t.w ∧ t.w ≤ 16 := inP_iff.1 (qdv h).width
theorem qad {t : V.Term} (h : okT t = true) : inP t.w 1 16 = true := (qdv h).width
theorem okT_n0 {t : V.Term} (h : okT t = true) (h1 : t.op ≠ 0) (h2 : t.op ≠ 19) : t.n = 0 := (qdv h).num h1 h2
theorem qm4 {t : V.Term} (h : okT t = true) (h1 : t.op ≠ 22) : t.name = ByteArray.empty := (qdv h).nam h1
theorem okT_op {t : V.Term} (h : okT t = true) : 0 ≤ t.op ∧ t.op ≤ 22 := by
  have := (qdv h).len
  unfold qjz at this
  repeat' split at this
  all_goals omega
theorem qi0 {t : V.Term} (h : okT t = true) (hk : t.kids ≠ []) : 1 ≤ t.op ∧ t.op ≤ 21 := by
  have := (qdv h).len
  have h1 : 0 < t.kids.length := by
    cases e : t.kids with
    | nil => exact absurd e hk
    | cons _ _ => simp
  unfold qjz at this
  repeat' split at this
  all_goals omega
theorem ks0 {l : List V.Term} (h : (l.length : Int) = 0) : l = [] := by
  cases l with
  | nil => rfl
  | cons _ _ => simp at h; omega
theorem ks1 {l : List V.Term} (h : (l.length : Int) = 1) : l = [kAt l 0] := by
  match l, h with
  | [a], _ => rfl
  | [], h => simp at h
  | _ :: _ :: _, h => simp at h; omega
theorem ks2 {l : List V.Term} (h : (l.length : Int) = 2) : l = [kAt l 0, kAt l 1] := by
  match l, h with
  | [a, b], _ => rfl
  | [], h => simp at h
  | [_], h => simp at h
  | _ :: _ :: _ :: _, h => simp at h; omega
theorem ks3 {l : List V.Term} (h : (l.length : Int) = 3) : l = [kAt l 0, kAt l 1, kAt l 2] := by
  match l, h with
  | [a, b, c], _ => rfl
  | [], h => simp at h
  | [_], h => simp at h
  | [_, _], h => simp at h
  | _ :: _ :: _ :: _ :: _, h => simp at h; omega
abbrev k0 (t : V.Term) : V.Term := kAt t.kids 0
abbrev k1 (t : V.Term) : V.Term := kAt t.kids 1
abbrev k2 (t : V.Term) : V.Term := kAt t.kids 2
section
variable {t : V.Term}
theorem qjx (h : okT t = true) (ho : t.op = 1 ∨ t.op = 2 ∨ t.op = 19 ∨ t.op = 20 ∨ t.op = 21) : (t.kids.length : Int) = 1 := by
  rw [(qdv h).len]; unfold qjz; rw [if_neg omG, if_pos ho]
theorem qhb (h : okT t = true) (ho : (3 ≤ t.op ∧ t.op ≤ 16) ∨ t.op = 18) : (t.kids.length : Int) = 2 := by
  rw [(qdv h).len]; unfold qjz; rw [if_neg omG, if_neg omG, if_pos ho]
theorem qgn (h : okT t = true) (ho : t.op = 17) : (t.kids.length : Int) = 3 := by
  rw [(qdv h).len]; unfold qjz; rw [if_neg omG, if_neg omG, if_neg omG, if_pos ho]
theorem len_c (h : okT t = true) (ho : t.op = 0) : t.kids = [] := by
  apply ks0
  rw [(qdv h).len]; unfold qjz; rw [if_pos omG]
theorem const_eq (h : okT t = true) (ho : t.op = 0) : t = cT t.w t.n := by
  have e1 := len_c h ho
  have e2 := qm4 h omG
  cases t
  simp only at ho e1 e2
  subst ho e1 e2
  rfl
theorem qeg (h : okT t = true) (ho : t.op = 0) : wordP t.w t.n = true := (qdv h).const ho
theorem fit_u (h : okT t = true) (ho : t.op = 1 ∨ t.op = 2) : (k0 t).w = t.w := by
  have := (qdv h).fit
  unfold qju at this
  rw [if_neg omG, if_pos ho] at this
  simpa using this
theorem fit_b (h : okT t = true) (ho : 3 ≤ t.op ∧ t.op ≤ 13) : (k0 t).w = t.w ∧ (k1 t).w = t.w := by
  have := (qdv h).fit
  unfold qju at this
  rw [if_neg omG, if_neg omG, if_pos ho] at this
  simpa using this
theorem qpc (h : okT t = true) (ho : 14 ≤ t.op ∧ t.op ≤ 16) : (k0 t).w = (k1 t).w ∧ t.w = 1 := by
  have := (qdv h).fit
  unfold qju at this
  rw [if_neg omG, if_neg omG, if_neg omG, if_pos ho] at this
  simpa using this
theorem fit_i (h : okT t = true) (ho : t.op = 17) : (k0 t).w = 1 ∧ (k1 t).w = t.w ∧ (k2 t).w = t.w := by
  have := (qdv h).fit
  unfold qju at this
  rw [if_neg omG, if_neg omG, if_neg omG, if_neg omG, if_pos ho] at this
  simp only [Bool.and_eq_true, decide_eq_true_eq] at this
  exact ⟨this.1.1, this.1.2, this.2⟩
theorem fit_j (h : okT t = true) (ho : t.op = 18) : (k0 t).w + (k1 t).w = t.w := by
  have := (qdv h).fit
  unfold qju at this
  rw [if_neg omG, if_neg omG, if_neg omG, if_neg omG, if_neg omG, if_pos ho] at this
  simpa using this
theorem qh5 (h : okT t = true) (ho : t.op = 19) : 0 ≤ t.n ∧ t.n ≤ (k0 t).w - t.w := by
  have := (qdv h).fit
  unfold qju at this
  rw [if_neg omG, if_neg omG, if_neg omG, if_neg omG, if_neg omG, if_neg omG, if_pos ho] at this
  simpa using this
theorem fit_g (h : okT t = true) (ho : t.op = 20 ∨ t.op = 21) : (k0 t).w ≤ t.w := by
  have := (qdv h).fit
  unfold qju at this
  rw [if_neg omG, if_neg omG, if_neg omG, if_neg omG, if_neg omG, if_neg omG, if_neg omG] at this
  simpa using this
theorem ok0 (h : okT t = true) (ho : 1 ≤ t.op ∧ t.op ≤ 21) : okT (k0 t) = true := by
  apply okT_k h
  have h1 := qjx h
  have h2 := qhb h
  have h3 := qgn h
  omega
theorem ok1 (h : okT t = true) (ho : (3 ≤ t.op ∧ t.op ≤ 18)) : okT (k1 t) = true := by
  apply okT_k h
  have h2 := qhb h
  have h3 := qgn h
  omega
theorem ok2 (h : okT t = true) (ho : t.op = 17) : okT (k2 t) = true := by
  apply okT_k h
  have h3 := qgn h
  omega
end
theorem mk_u {op w n : Int} {a : V.Term} (ha : okT a = true) (hw : 1 ≤ w ∧ w ≤ 16) (ho : op = 1 ∨ op = 2 ∨ op = 19 ∨ op = 20 ∨ op = 21) (hn : op ≠ 19 → n = 0) (hf : qju op w n [a] = true) : okT (oT op w n [a]) = true := by
  refine okT_of ⟨inP_iff.2 hw, ?_, ?_, hf, fun e => by omega, fun _ e => hn e, fun _ => rfl⟩ omG (by simp [okTs, ha])
  · unfold qjz; rw [if_neg omG, if_pos ho]; rfl
  · simp [qad ha]
theorem mk_b {op w : Int} {a b : V.Term} (ha : okT a = true) (hb : okT b = true) (hw : 1 ≤ w ∧ w ≤ 16) (ho : (3 ≤ op ∧ op ≤ 16) ∨ op = 18) (hf : qju op w 0 [a, b] = true) : okT (oT op w 0 [a, b]) = true := by
  refine okT_of ⟨inP_iff.2 hw, ?_, ?_, hf, fun e => by omega, fun _ _ => rfl, fun _ => rfl⟩ omG (by simp [okTs, ha, hb])
  · unfold qjz; rw [if_neg omG, if_neg omG, if_pos ho]; rfl
  · simp [qad ha, qad hb]
theorem mk_i {w : Int} {a b c : V.Term} (ha : okT a = true) (hb : okT b = true) (hc : okT c = true) (hw : 1 ≤ w ∧ w ≤ 16) (hf : qju 17 w 0 [a, b, c] = true) : okT (oT 17 w 0 [a, b, c]) = true := by
  refine okT_of ⟨inP_iff.2 hw, ?_, ?_, hf, fun e => by omega, fun _ _ => rfl, fun _ => rfl⟩ omG (by simp [okTs, ha, hb, hc])
  · rfl
  · simp [qad ha, qad hb, qad hc]
theorem qot {w n : Int} (h : wordP w n = true) : okT (cT w n) = true := by
  refine okT_of ⟨(qas h).1, rfl, rfl, rfl, fun _ => h, fun e => absurd rfl e, fun _ => rfl⟩ (by decide) rfl
/-! ### values -/
def cutP (w a low n : Int) : Int := if wordP w a = true ∧ 0 ≤ low ∧ 1 ≤ n ∧ n ≤ w - low then qbu n (Int.fdiv a (2 ^ min low.toNat IntKind.i64.bits)) else -1
def qh4 (w a v b : Int) : Int := if wordP w a = true ∧ wordP v b = true ∧ w + v ≤ 16 then a * 2 ^ v.toNat + b else -1
def qd1 (w a n : Int) (s : Bool) : Int := if wordP w a = true ∧ w ≤ n ∧ n ≤ 16 then (if s = true then qbu n (qby w a) else a) else -1
abbrev xAt (x : List Int) (i : Nat) : Int := x.getD i K.ints.dflt
def apT (t : V.Term) (x : List Int) : Int :=
  if t.op = 1 ∨ t.op = 2 then qdg t.op (k0 t).w (xAt x 0)
  else if 3 ≤ t.op ∧ t.op ≤ 16 then qa2 t.op (k0 t).w (xAt x 0) (xAt x 1)
  else if t.op = 17 then (if xAt x 0 = 1 then xAt x 1 else xAt x 2)
  else if t.op = 18 then qh4 (k0 t).w (xAt x 0) (k1 t).w (xAt x 1)
  else if t.op = 19 then cutP (k0 t).w (xAt x 0) t.n t.w
  else qd1 (k0 t).w (xAt x 0) t.w (t.op == 21)
theorem applyU_w {op w a : Int} (ho : op = 1 ∨ op = 2) (ha : wordP w a = true) : wordP w (qdg op w a) = true := by
  rcases ho with rfl | rfl
  · exact qpm ha
  · have := qb8 (IntKind.i64.wrap (0 - a)) (qas ha).1
    unfold qdg
    rw [if_pos ha, if_neg (by decide), if_pos rfl]
    exact this
theorem applyB_t {op w a b : Int} (ho : 14 ≤ op ∧ op ≤ 16) (ha : wordP w a = true) (hb : wordP w b = true) : wordP 1 (qa2 op w a b) = true := by
  have c : op = 14 ∨ op = 15 ∨ op = 16 := by omega
  have e : (wordP w a && wordP w b) = true := by rw [ha, hb]; rfl
  rcases c with rfl | rfl | rfl
  · have : qa2 14 w a b = qct (a == b) := by unfold qa2; rw [if_pos e]; rfl
    rw [this]; exact qcy (by decide) _
  · have : qa2 15 w a b = qct (decide (a < b)) := by unfold qa2; rw [if_pos e]; rfl
    rw [this]; exact qcy (by decide) _
  · have : qa2 16 w a b = qct (decide (qby w a < qby w b)) := by unfold qa2; rw [if_pos e]; rfl
    rw [this]; exact qcy (by decide) _
theorem join_w {w a v b : Int} (ha : wordP w a = true) (hb : wordP v b = true) (hw : w + v ≤ 16) : wordP (w + v) (qh4 w a v b) = true := by
  unfold qh4
  rw [if_pos ⟨ha, hb, hw⟩]
  obtain ⟨h1, a0, a1⟩ := qas ha
  obtain ⟨h2, b0, b1⟩ := qas hb
  rw [inP_iff] at h1 h2
  have hp : (0 : Int) < 2 ^ v.toNat := Int.pow_pos (by decide)
  have e : (2 : Int) ^ (w + v).toNat = 2 ^ w.toNat * 2 ^ v.toNat := by
    rw [← Int.pow_add]
    congr 1
    omega
  have h3 : 0 ≤ a * 2 ^ v.toNat := Int.mul_nonneg a0 (Int.le_of_lt hp)
  have h4 : (a + 1) * 2 ^ v.toNat ≤ 2 ^ w.toNat * 2 ^ v.toNat := Int.mul_le_mul_of_nonneg_right omG (Int.le_of_lt hp)
  rw [Int.add_mul, Int.one_mul] at h4
  refine qcx (inP_iff.2 ⟨by omega, by omega⟩) omG ?_
  rw [e]
  omega
theorem widen_w {w a n : Int} {s : Bool} (ha : wordP w a = true) (h1 : w ≤ n) (h2 : n ≤ 16) : wordP n (qd1 w a n s) = true := by
  unfold qd1
  rw [if_pos ⟨ha, h1, h2⟩]
  obtain ⟨hw, a0, a1⟩ := qas ha
  rw [inP_iff] at hw
  have hn : inP n 1 16 = true := inP_iff.2 ⟨by omega, by omega⟩
  split
  · exact qb8 _ hn
  · refine qcx hn a0 ?_
    have e : n.toNat = w.toNat + (n - w).toNat := by omega
    have hp : (1 : Int) ≤ 2 ^ (n - w).toNat := by have : (0 : Int) < 2 ^ (n - w).toNat := Int.pow_pos (by decide); omega
    have hq : (0 : Int) ≤ 2 ^ w.toNat := Int.le_of_lt (Int.pow_pos (by decide))
    have := Int.mul_le_mul_of_nonneg_left hp hq
    rw [e, Int.pow_add]
    omega
theorem cut_w {w a low n : Int} (ha : wordP w a = true) (h0 : 0 ≤ low) (h1 : 1 ≤ n) (h2 : n ≤ w - low) : wordP n (cutP w a low n) = true := by
  unfold cutP
  rw [if_pos ⟨ha, h0, h1, h2⟩]
  have hw := (qas ha).1
  rw [inP_iff] at hw
  exact qb8 _ (inP_iff.2 ⟨h1, by omega⟩)
theorem apT_word {t : V.Term} {x : List Int} (h : okT t = true) (ho : 1 ≤ t.op ∧ t.op ≤ 21) (hx : ∀ i, i < t.kids.length → wordP (kAt t.kids i).w (xAt x i) = true) : wordP t.w (apT t x) = true := by
  have hw := qdu h
  have h0 : wordP (k0 t).w (xAt x 0) = true := hx 0 (by have h1 := qjx h; have h2 := qhb h; have h3 := qgn h; omega)
  unfold apT
  by_cases c1 : t.op = 1 ∨ t.op = 2
  · rw [if_pos c1]
    have e := fit_u h c1
    rw [e] at h0 ⊢
    exact applyU_w c1 h0
  rw [if_neg c1]
  by_cases c2 : 3 ≤ t.op ∧ t.op ≤ 16
  · rw [if_pos c2]
    have h1 : wordP (k1 t).w (xAt x 1) = true := hx 1 (by have h2 := qhb h; omega)
    by_cases c3 : t.op ≤ 13
    · have e := fit_b h ⟨c2.1, c3⟩
      rw [e.1] at h0 ⊢
      rw [e.2] at h1
      exact qf4 c2 h0 h1
    · have e := qpc h ⟨by omega, c2.2⟩
      rw [e.2]
      rw [← e.1] at h1
      exact applyB_t ⟨by omega, c2.2⟩ h0 h1
  rw [if_neg c2]
  by_cases c3 : t.op = 17
  · rw [if_pos c3]
    have e := fit_i h c3
    have h1 : wordP (k1 t).w (xAt x 1) = true := hx 1 (by have h2 := qgn h; omega)
    have h2 : wordP (k2 t).w (xAt x 2) = true := hx 2 (by have h2 := qgn h; omega)
    rw [e.2.1] at h1
    rw [e.2.2] at h2
    split
    · exact h1
    · exact h2
  rw [if_neg c3]
  by_cases c4 : t.op = 18
  · rw [if_pos c4]
    have h1 : wordP (k1 t).w (xAt x 1) = true := hx 1 (by have h2 := qhb h; omega)
    have e := fit_j h c4
    have := join_w h0 h1 omG
    rwa [e] at this
  rw [if_neg c4]
  by_cases c5 : t.op = 19
  · rw [if_pos c5]
    have e := qh5 h c5
    exact cut_w h0 e.1 hw.1 omG
  rw [if_neg c5]
  exact widen_w h0 (fit_g h omG) hw.2
/-! ### the rules -/
def qam (op : Int) : Prop := op = 3 ∨ op = 5 ∨ op = 8 ∨ op = 9 ∨ op = 10 ∨ op = 14
instance (op : Int) : Decidable (qam op) := by unfold qam; infer_instance
abbrev onW (w : Int) : Int := 2 ^ w.toNat - 1
def redU (t : V.Term) : V.Term × Bool := if (k0 t).op = t.op then (k0 (k0 t), false) else (t, false)
def redI (t : V.Term) : V.Term × Bool :=
  if (k0 t).op = 0 ∧ (k0 t).n = 1 then (k1 t, false)
  else if (k0 t).op = 0 then (k2 t, false)
  else if cmpT (k1 t) (k2 t) = 0 then (k1 t, false)
  else if (k0 t).op = 1 then (oT 17 t.w 0 [k0 (k0 t), k2 t, k1 t], true)
  else if t.w = 1 ∧ ((k1 t).op = 0 ∧ (k1 t).n = 1) ∧ ((k2 t).op = 0 ∧ (k2 t).n = 0) then (k0 t, false)
  else if t.w = 1 ∧ ((k1 t).op = 0 ∧ (k1 t).n = 0) ∧ ((k2 t).op = 0 ∧ (k2 t).n = 1) then (oT 1 1 0 [k0 t], true)
  else (t, false)
def redC (t : V.Term) : V.Term × Bool :=
  if t.n = 0 ∧ t.w = (k0 t).w then (k0 t, false)
  else if (k0 t).op = 19 then (oT 19 t.w (t.n + (k0 t).n) [k0 (k0 t)], true)
  else if (k0 t).op = 18 ∧ t.n + t.w ≤ (k1 (k0 t)).w then (oT 19 t.w t.n [k1 (k0 t)], true)
  else if (k0 t).op = 18 ∧ (k1 (k0 t)).w ≤ t.n then (oT 19 t.w (t.n - (k1 (k0 t)).w) [k0 (k0 t)], true)
  else if ((k0 t).op = 20 ∨ (k0 t).op = 21) ∧ t.n + t.w ≤ (k0 (k0 t)).w then (oT 19 t.w t.n [k0 (k0 t)], true)
  else (t, false)
def redW (t : V.Term) : V.Term × Bool :=
  if t.w = (k0 t).w then (k0 t, false)
  else if (k0 t).op = t.op then (oT t.op t.w 0 [k0 (k0 t)], true)
  else (t, false)
def redJ (t : V.Term) : V.Term × Bool :=
  if (k0 t).op = 19 ∧ (k1 t).op = 19 ∧ (k0 t).n = (k1 t).n + (k1 t).w ∧ cmpT (k0 (k0 t)) (k0 (k1 t)) = 0 then (oT 19 t.w (k1 t).n [k0 (k1 t)], true)
  else (t, false)
def qca (t : V.Term) : V.Term × Bool :=
  if qam t.op ∧ cmpT (k0 t) (k1 t) = 1 then (oT t.op t.w 0 [k1 t, k0 t], true)
  else if (k0 t).op = 0 ∧ ((t.op = 3 ∧ (k0 t).n = 0) ∨ (t.op = 5 ∧ (k0 t).n = 1) ∨ (t.op = 8 ∧ (k0 t).n = onW (k0 t).w) ∨ (t.op = 9 ∧ (k0 t).n = 0) ∨ (t.op = 10 ∧ (k0 t).n = 0) ∨ (t.op = 14 ∧ (k0 t).w = 1 ∧ (k0 t).n = 1)) then (k1 t, false)
  else if (k0 t).op = 0 ∧ ((t.op = 5 ∧ (k0 t).n = 0) ∨ (t.op = 8 ∧ (k0 t).n = 0)) then (cT t.w 0, false)
  else if (k0 t).op = 0 ∧ t.op = 9 ∧ (k0 t).n = onW (k0 t).w then (cT t.w (onW (k0 t).w), false)
  else if (k0 t).op = 0 ∧ ((t.op = 10 ∧ (k0 t).n = onW (k0 t).w) ∨ (t.op = 14 ∧ (k0 t).w = 1 ∧ (k0 t).n = 0)) then (oT 1 t.w 0 [k1 t], true)
  else if (k1 t).op = 0 ∧ (k1 t).n = 0 ∧ (t.op = 4 ∨ t.op = 11 ∨ t.op = 12 ∨ t.op = 13) then (k0 t, false)
  else if (k1 t).op = 0 ∧ (k1 t).n = 0 ∧ t.op = 15 then (cT 1 0, false)
  else if cmpT (k0 t) (k1 t) = 0 ∧ (t.op = 8 ∨ t.op = 9) then (k0 t, false)
  else if cmpT (k0 t) (k1 t) = 0 ∧ (t.op = 4 ∨ t.op = 10 ∨ t.op = 15 ∨ t.op = 16) then (cT t.w 0, false)
  else if cmpT (k0 t) (k1 t) = 0 ∧ t.op = 14 then (cT 1 1, false)
  else if (qam t.op ∧ t.op ≠ 14) ∧ (k0 t).op = 0 ∧ (k1 t).op = t.op ∧ (k0 (k1 t)).op = 0 then (oT t.op t.w 0 [cT t.w (qa2 t.op t.w (k0 t).n (k0 (k1 t)).n), k1 (k1 t)], true)
  else (t, false)
def qdk (t : V.Term) : V.Term × Bool :=
  if t.op = 1 ∨ t.op = 2 then redU t
  else if t.op = 17 then redI t
  else if t.op = 19 then redC t
  else if t.op = 20 ∨ t.op = 21 then redW t
  else if t.op = 18 then redJ t
  else qca t
def qbe (t : V.Term) : Nat := 2 * sizeT t + (if qam t.op ∧ cmpT (k0 t) (k1 t) = 1 then 1 else 0)
theorem qdx {x t : V.Term} (h : sizeT x < sizeT t) : qbe x < qbe t := by
  unfold qbe
  split <;> split <;> omega
theorem qil (t : V.Term) : sizeT t = 1 + qbb t.kids := by cases t; rw [sizeT]
section
variable {t : V.Term}
theorem sz_u (h : okT t = true) (ho : t.op = 1 ∨ t.op = 2 ∨ t.op = 19 ∨ t.op = 20 ∨ t.op = 21) : sizeT t = 1 + sizeT (k0 t) := by
  rw [qil, ks1 (qjx h ho)]; simp [qbb]
theorem sz_b (h : okT t = true) (ho : (3 ≤ t.op ∧ t.op ≤ 16) ∨ t.op = 18) : sizeT t = 1 + (sizeT (k0 t) + sizeT (k1 t)) := by
  rw [qil, ks2 (qhb h ho)]; simp [qbb]
theorem sz_i (h : okT t = true) (ho : t.op = 17) : sizeT t = 1 + (sizeT (k0 t) + (sizeT (k1 t) + sizeT (k2 t))) := by
  rw [qil, ks3 (qgn h ho)]; simp [qbb]
end
theorem sz_1 {op w n : Int} {a : V.Term} : sizeT (oT op w n [a]) = 1 + sizeT a := by simp [sizeT, qbb]
theorem sz_2 {op w n : Int} {a b : V.Term} : sizeT (oT op w n [a, b]) = 1 + (sizeT a + sizeT b) := by simp [sizeT, qbb]
theorem sz_3 {op w n : Int} {a b c : V.Term} : sizeT (oT op w n [a, b, c]) = 1 + (sizeT a + (sizeT b + sizeT c)) := by simp [sizeT, qbb]
theorem sz_c {w n : Int} : sizeT (cT w n) = 1 := by simp [sizeT, qbb]
theorem qai {α : Type} {a x : α} {P : Prop} (h : (a, false) = (x, true)) : P := by simp at h
theorem qa3 {α : Type} {a x : α} (h : (a, true) = (x, true)) : x = a := by simp at h; exact h.symm
theorem fit_bS {op w : Int} {a b : V.Term} (h : qju op w 0 [a, b] = true) (ho : 3 ≤ op ∧ op ≤ 13 ∨ op = 14) : qju op w 0 [b, a] = true := by
  unfold qju at h ⊢
  rw [if_neg omG, if_neg omG] at h ⊢
  rcases ho with ho | ho
  · rw [if_pos ho] at h ⊢
    rw [Bool.and_comm]; exact h
  · rw [if_neg omG, if_pos omG] at h ⊢
    simp only [Bool.and_eq_true, decide_eq_true_eq] at h ⊢
    exact ⟨h.1.symm, h.2⟩
theorem qah {α : Type} {p : Prop} [Decidable p] {a b x : α} (h : (if p then a else b) = x) : (p ∧ a = x) ∨ (¬ p ∧ b = x) := by
  by_cases hp : p
  · rw [if_pos hp] at h; exact .inl ⟨hp, h⟩
  · rw [if_neg hp] at h; exact .inr ⟨hp, h⟩
theorem qcc {t x : V.Term} (h : okT t = true) (ho : 1 ≤ t.op ∧ t.op ≤ 21) (hr : qdk t = (x, true)) : okT x = true ∧ qbe x < qbe t := by
  have hw := qdu h
  have a0 := ok0 h ho
  unfold qdk at hr
  by_cases c1 : t.op = 1 ∨ t.op = 2
  · rw [if_pos c1] at hr
    unfold redU at hr
    rcases qah hr with ⟨_, hr⟩ | ⟨_, hr⟩ <;> exact qai hr
  rw [if_neg c1] at hr
  by_cases c2 : t.op = 17
  · rw [if_pos c2] at hr
    have a1 := ok1 h omG
    have a2 := ok2 h omG
    have e := fit_i h c2
    have es := sz_i h c2
    unfold redI at hr
    rcases qah hr with ⟨c, hr⟩ | ⟨c, hr⟩
    · exact qai hr
    rcases qah hr with ⟨c, hr⟩ | ⟨c, hr⟩
    · exact qai hr
    rcases qah hr with ⟨c, hr⟩ | ⟨c, hr⟩
    · exact qai hr
    rcases qah hr with ⟨c, hr⟩ | ⟨c, hr⟩
    · obtain rfl := qa3 hr
      have f := fit_u a0 (.inl c)
      have s := sz_u a0 (.inl c)
      refine ⟨mk_i (ok0 a0 omG) a2 a1 hw ?_, qdx ?_⟩
      · show (decide ((k0 (k0 t)).w = 1) && decide ((k2 t).w = t.w) && decide ((k1 t).w = t.w)) = true
        simp only [Bool.and_eq_true, decide_eq_true_eq]
        exact ⟨⟨by omega, e.2.2⟩, e.2.1⟩
      · rw [sz_3]; omega
    rcases qah hr with ⟨c, hr⟩ | ⟨c, hr⟩
    · exact qai hr
    rcases qah hr with ⟨c, hr⟩ | ⟨c, hr⟩
    · obtain rfl := qa3 hr
      refine ⟨mk_u a0 omG omG (fun _ => rfl) ?_, qdx ?_⟩
      · show decide ((k0 t).w = 1) = true
        exact decide_eq_true e.1
      · rw [sz_1]
        have := qeu (k1 t)
        omega
    · exact qai hr
  rw [if_neg c2] at hr
  by_cases c3 : t.op = 19
  · rw [if_pos c3] at hr
    have e := qh5 h c3
    have es := sz_u h omG
    unfold redC at hr
    rcases qah hr with ⟨c, hr⟩ | ⟨c, hr⟩
    · exact qai hr
    rcases qah hr with ⟨c, hr⟩ | ⟨c, hr⟩
    · obtain rfl := qa3 hr
      have f := qh5 a0 c
      have s := sz_u a0 omG
      refine ⟨mk_u (ok0 a0 omG) hw omG (fun e => absurd rfl e) ?_, qdx (by rw [sz_1]; omega)⟩
      show (decide (0 ≤ t.n + (k0 t).n) && decide (t.n + (k0 t).n ≤ (k0 (k0 t)).w - t.w)) = true
      simp only [Bool.and_eq_true, decide_eq_true_eq]
      omega
    rcases qah hr with ⟨c, hr⟩ | ⟨c, hr⟩
    · obtain rfl := qa3 hr
      have f := fit_j a0 c.1
      have s := sz_b a0 (.inr c.1)
      refine ⟨mk_u (ok1 a0 omG) hw omG (fun e => absurd rfl e) ?_, qdx (by rw [sz_1]; omega)⟩
      show (decide (0 ≤ t.n) && decide (t.n ≤ (k1 (k0 t)).w - t.w)) = true
      simp only [Bool.and_eq_true, decide_eq_true_eq]
      omega
    rcases qah hr with ⟨c, hr⟩ | ⟨c, hr⟩
    · obtain rfl := qa3 hr
      have f := fit_j a0 c.1
      have s := sz_b a0 (.inr c.1)
      refine ⟨mk_u (ok0 a0 omG) hw omG (fun e => absurd rfl e) ?_, qdx (by rw [sz_1]; omega)⟩
      show (decide (0 ≤ t.n - (k1 (k0 t)).w) && decide (t.n - (k1 (k0 t)).w ≤ (k0 (k0 t)).w - t.w)) = true
      simp only [Bool.and_eq_true, decide_eq_true_eq]
      omega
    rcases qah hr with ⟨c, hr⟩ | ⟨c, hr⟩
    · obtain rfl := qa3 hr
      have s := sz_u a0 omG
      refine ⟨mk_u (ok0 a0 omG) hw omG (fun e => absurd rfl e) ?_, qdx (by rw [sz_1]; omega)⟩
      show (decide (0 ≤ t.n) && decide (t.n ≤ (k0 (k0 t)).w - t.w)) = true
      simp only [Bool.and_eq_true, decide_eq_true_eq]
      omega
    · exact qai hr
  rw [if_neg c3] at hr
  by_cases c4 : t.op = 20 ∨ t.op = 21
  · rw [if_pos c4] at hr
    have e := fit_g h c4
    have es := sz_u h omG
    unfold redW at hr
    rcases qah hr with ⟨c, hr⟩ | ⟨c, hr⟩
    · exact qai hr
    rcases qah hr with ⟨c, hr⟩ | ⟨c, hr⟩
    · obtain rfl := qa3 hr
      have f := fit_g a0 omG
      have s := sz_u a0 omG
      refine ⟨mk_u (ok0 a0 omG) hw omG (fun _ => rfl) ?_, qdx (by rw [sz_1]; omega)⟩
      unfold qju
      rw [if_neg omG, if_neg omG, if_neg omG, if_neg omG, if_neg omG, if_neg omG, if_neg omG]
      show decide ((k0 (k0 t)).w ≤ t.w) = true
      exact decide_eq_true omG
    · exact qai hr
  rw [if_neg c4] at hr
  have a1 := ok1 h omG
  by_cases c5 : t.op = 18
  · rw [if_pos c5] at hr
    have e := fit_j h c5
    have es := sz_b h (.inr c5)
    unfold redJ at hr
    rcases qah hr with ⟨c, hr⟩ | ⟨c, hr⟩
    · obtain rfl := qa3 hr
      have f0 := qh5 a0 c.1
      have f := qh5 a1 c.2.1
      have s := sz_u a1 omG
      have s0 := sz_u a0 omG
      have hx : (k0 (k0 t)).w = (k0 (k1 t)).w := by
        have := c.2.2.2
        rw [qf1] at this
        by_cases q1 : sgn (k0 (k0 t)).op (k0 (k1 t)).op ≠ 0
        · rw [if_pos q1] at this; exact absurd this q1
        rw [if_neg q1] at this
        by_cases q2 : sgn (k0 (k0 t)).w (k0 (k1 t)).w ≠ 0
        · rw [if_pos q2] at this; exact absurd this q2
        · have q3 : sgn (k0 (k0 t)).w (k0 (k1 t)).w = 0 := by omega
          unfold sgn at q3
          split at q3
          · omega
          · split at q3 <;> omega
      refine ⟨mk_u (ok0 a1 omG) hw omG (fun e => absurd rfl e) ?_, qdx (by rw [sz_1]; omega)⟩
      show (decide (0 ≤ (k1 t).n) && decide ((k1 t).n ≤ (k0 (k1 t)).w - t.w)) = true
      simp only [Bool.and_eq_true, decide_eq_true_eq]
      omega
    · exact qai hr
  rw [if_neg c5] at hr
  have es := sz_b h omG
  unfold qca at hr
  rcases qah hr with ⟨c, hr⟩ | ⟨c, hr⟩
  · obtain rfl := qa3 hr
    have hs := c.1
    unfold qam at hs
    have hf := (qdv h).fit
    rw [okT_n0 h omG omG, ks2 (qhb h omG)] at hf
    refine ⟨mk_b a1 a0 hw omG (fit_bS hf omG), ?_⟩
    unfold qbe
    rw [if_pos c, if_neg (fun q => by
      have q2 : cmpT (k1 t) (k0 t) = 1 := q.2
      rw [cmpT_neg] at q2
      omega), sz_2]
    omega
  rcases qah hr with ⟨c, hr⟩ | ⟨c, hr⟩
  · exact qai hr
  rcases qah hr with ⟨c, hr⟩ | ⟨c, hr⟩
  · exact qai hr
  rcases qah hr with ⟨c, hr⟩ | ⟨c, hr⟩
  · exact qai hr
  rcases qah hr with ⟨c, hr⟩ | ⟨c, hr⟩
  · obtain rfl := qa3 hr
    refine ⟨mk_u a1 hw omG (fun _ => rfl) ?_, qdx ?_⟩
    · show decide ((k1 t).w = t.w) = true
      rcases c.2 with q | q
      · exact decide_eq_true (fit_b h omG).2
      · have := qpc h omG
        exact decide_eq_true omG
    · rw [sz_1]
      have := qeu (k0 t)
      omega
  rcases qah hr with ⟨c, hr⟩ | ⟨c, hr⟩
  · exact qai hr
  rcases qah hr with ⟨c, hr⟩ | ⟨c, hr⟩
  · exact qai hr
  rcases qah hr with ⟨c, hr⟩ | ⟨c, hr⟩
  · exact qai hr
  rcases qah hr with ⟨c, hr⟩ | ⟨c, hr⟩
  · exact qai hr
  rcases qah hr with ⟨c, hr⟩ | ⟨c, hr⟩
  · exact qai hr
  rcases qah hr with ⟨c, hr⟩ | ⟨c, hr⟩
  · obtain rfl := qa3 hr
    have hs := c.1.1
    have hs2 := c.1.2
    unfold qam at hs
    have e := fit_b h omG
    have f := fit_b a1 omG
    have b0 := ok0 a1 omG
    have s := sz_b a1 omG
    have w0 := qeg a0 c.2.1
    have w1 := qeg b0 c.2.2.2
    have e1 : (k0 t).w = t.w := e.1
    have e2 : (k0 (k1 t)).w = t.w := by rw [f.1]; exact e.2
    rw [e1] at w0
    rw [e2] at w1
    have hk := qot (qf4 (op := t.op) omG w0 w1)
    refine ⟨mk_b hk (ok1 a1 omG) hw omG ?_, qdx ?_⟩
    · unfold qju
      rw [if_neg omG, if_neg omG, if_pos omG]
      show (decide (t.w = t.w) && decide ((k1 (k1 t)).w = t.w)) = true
      simp only [Bool.and_eq_true, decide_eq_true_eq]
      exact ⟨trivial, by rw [f.2]; exact e.2⟩
    · rw [sz_2, sz_c]
      have := qeu (k0 t)
      have := qeu (k0 (k1 t))
      omega
  · exact qai hr
/-! ### all rules, one after the other -/
def qb2 (ks : List V.Term) : Bool := ks.all fun k => decide (k.op = 0)
abbrev nums (ks : List V.Term) : List Int := ks.map (·.n)
def mkF : Nat → V.Term → V.Term
  | 0, t => t
  | f + 1, t => if t.kids.length = 0 then t else if qb2 t.kids = true then cT t.w (apT t (nums t.kids)) else if (qdk t).2 = true then mkF f (qdk t).1 else (qdk t).1
def mkT (t : V.Term) : V.Term := mkF (qbe t + 1) t
theorem mkF_ge : ∀ (f g : Nat) (t : V.Term), okT t = true → qbe t < f → qbe t < g → mkF f t = mkF g t
  | 0, _, _, _, h, _ => by omega
  | _, 0, _, _, _, h => by omega
  | f + 1, g + 1, t, h, hf, hg => by
    rw [mkF, mkF]
    by_cases c1 : t.kids.length = 0
    · rw [if_pos c1, if_pos c1]
    rw [if_neg c1, if_neg c1]
    by_cases c2 : qb2 t.kids = true
    · rw [if_pos c2, if_pos c2]
    rw [if_neg c2, if_neg c2]
    by_cases c3 : (qdk t).2 = true
    · rw [if_pos c3, if_pos c3]
      have ho : 1 ≤ t.op ∧ t.op ≤ 21 := qi0 h (fun e => c1 (by rw [e]; rfl))
      have := qcc (x := (qdk t).1) h ho (Prod.ext rfl c3)
      exact mkF_ge f g _ this.1 omG omG
    · rw [if_neg c3, if_neg c3]
section
variable {t x : V.Term}
theorem mkT_leaf (h : t.kids.length = 0) : mkT t = t := by unfold mkT; rw [mkF, if_pos h]
theorem qgl (h : t.kids.length ≠ 0) (hc : qb2 t.kids = true) : mkT t = cT t.w (apT t (nums t.kids)) := by unfold mkT; rw [mkF, if_neg h, if_pos hc]
theorem mkT_done (h : t.kids.length ≠ 0) (hc : qb2 t.kids = false) (hr : qdk t = (x, false)) : mkT t = x := by
  unfold mkT
  rw [mkF, if_neg h, if_neg (by rw [hc]; decide), hr, if_neg Bool.false_ne_true]
theorem mkT_again (ht : okT t = true) (h : t.kids.length ≠ 0) (hc : qb2 t.kids = false) (hr : qdk t = (x, true)) : mkT t = mkT x := by
  have ho : 1 ≤ t.op ∧ t.op ≤ 21 := qi0 ht (fun e => h (by rw [e]; rfl))
  obtain ⟨h1, h2⟩ := qcc ht ho hr
  have e : mkT t = mkF (qbe t) x := by
    show mkF (qbe t + 1) t = _
    rw [mkF, if_neg h, if_neg (by rw [hc]; decide), hr, if_pos rfl]
  rw [e]
  exact mkF_ge _ _ _ h1 omG omG
end
end Vg
