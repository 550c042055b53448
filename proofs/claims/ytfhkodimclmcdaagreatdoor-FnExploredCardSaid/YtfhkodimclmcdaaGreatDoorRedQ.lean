/- Terms in order: the plain law of the comparison. No condition. -/
import Derived.Test.YtfhkodimclmcdaaGreatDoorTermI
import Derived.Lib.Strings
import Derived.Test.YtfhkodimclmcdaaGreatDoorWords
namespace Vg
open Go Go.Proofs
/-! ### strings in order -/
theorem bl_eq : ∀ (x y : List UInt8),Op.bytesLess x y = decide (x < y)
  | [],[]=>by simp [Op.bytesLess]
  | _ :: _,[]=>by simp [Op.bytesLess]
  | [],_ :: _=>by simp [Op.bytesLess]
  | a :: x,b :: y=>by
    rw [Op.bytesLess,bl_eq x y]
    simp only [List.cons_lt_cons_iff]
    by_cases h1 : a < b <;> by_cases h2 : a = b <;> by_cases h3 : x < y <;> simp [h1,h2,h3]
def o6 (a b : ByteArray) : Bool := Op.bytesLess a.toList b.toList
theorem tH {a b : ByteArray} : o6 a b = true ↔ a.data.toList < b.data.toList := by
  unfold o6
  rw [bl_eq,Lib.toList_data,Lib.toList_data,decide_eq_true_iff]
theorem ba_ext {a b : ByteArray} (h : a.data.toList = b.data.toList) : a = b := ByteArray.ext (Array.ext' h)
theorem vK (a : ByteArray) : o6 a a = false := by
  rw [Bool.eq_false_iff]
  intro h
  exact List.lt_irrefl _ (tH.1 h)
theorem lN {a b c : ByteArray} (h1 : o6 a b = true) (h2 : o6 b c = true) : o6 a c = true := tH.2 (List.lt_trans (tH.1 h1) (tH.1 h2))
theorem qbh {a b : ByteArray} (h : o6 a b = true) : o6 b a = false := by
  rw [Bool.eq_false_iff]
  intro h2
  have := lN h h2
  rw [vK] at this
  cases this
theorem uK {a b : ByteArray} (hn : a ≠ b) (h : o6 a b = false) : o6 b a = true := by
  rw [Bool.eq_false_iff] at h
  refine tH.2 ?_
  have h1 : ¬ a.data.toList < b.data.toList := fun k=>h (tH.2 k)
  rcases List.le_iff_lt_or_eq.1 (List.not_lt.1 h1) with h2|h2
  . exact h2
  . exact absurd (ba_ext h2.symm) hn
/-! ### numbers and terms in order -/
def s4 (a b : Int) : Int := if a < b then -1 else if b < a then 1 else 0
def scmp (a b : ByteArray) : Int := if o6 a b = true then -1 else if o6 b a = true then 1 else 0
theorem eU (a b : Int) : s4 b a = - s4 a b := by
  unfold s4
  split <;> split <;> omega
theorem dU (a b : Int) : s4 a b = -1 \/ s4 a b = 0 \/ s4 a b = 1 := by
  unfold s4
  split
  . exact .inl rfl
  . split
    . exact .inr (.inr rfl)
    . exact .inr (.inl rfl)
theorem qis (a b : ByteArray) : scmp b a = - scmp a b := by
  unfold scmp
  by_cases h1 : o6 a b = true
  . rw [if_pos h1,if_neg (by rw [qbh h1];decide),if_pos h1];rfl
  . by_cases h2 : o6 b a = true
    . rw [if_pos h2,if_neg h1,if_pos h2]
    . rw [if_neg h1,if_neg h2,if_neg h2,if_neg h1];rfl
theorem scmp_r (a b : ByteArray) : scmp a b = -1 \/ scmp a b = 0 \/ scmp a b = 1 := by
  unfold scmp
  split
  . exact .inl rfl
  . split
    . exact .inr (.inr rfl)
    . exact .inr (.inl rfl)
theorem kU (a : ByteArray) : scmp a a = 0 := by
  unfold scmp
  rw [if_neg (by rw [vK];decide),if_neg (by rw [vK];decide)]
theorem qa8 {a b : ByteArray} (h : o6 a b = true) : scmp a b = -1 := by unfold scmp;rw [if_pos h]
theorem lU {a b : ByteArray} (hn : a ≠ b) (h : o6 a b = false) : scmp a b = 1 := by
  unfold scmp
  rw [if_neg (by rw [h];decide),if_pos (uK hn h)]
mutual
def cmpT : V.Term -> V.Term -> Int
  | ⟨o,w,n,nm,ks⟩,b=>if s4 o b.op ≠ 0 then s4 o b.op else if s4 w b.w ≠ 0 then s4 w b.w else if s4 n b.n ≠ 0 then s4 n b.n else if scmp nm b.name ≠ 0 then scmp nm b.name else l9 ks b.kids
def l9 : List V.Term -> List V.Term -> Int
  | [],[]=>0
  | [],_ :: _ => -1
  | _ :: _,[]=>1
  | a :: xs,b :: ys=>if cmpT a b ≠ 0 then cmpT a b else l9 xs ys
end
theorem aK (a b : V.Term) : cmpT a b = if s4 a.op b.op ≠ 0 then s4 a.op b.op else if s4 a.w b.w ≠ 0 then s4 a.w b.w else if s4 a.n b.n ≠ 0 then s4 a.n b.n else if scmp a.name b.name ≠ 0 then scmp a.name b.name else l9 a.kids b.kids := by
  cases a;rw [cmpT]
mutual
theorem qgd : ∀ (a b : V.Term),cmpT b a = - cmpT a b
  | ⟨o,w,n,nm,ks⟩,b=>by
    rw [aK b,cmpT]
    simp only
    rw [eU o,eU w,eU n,qis nm,qga ks b.kids]
    simp only [ne_eq,Int.neg_eq_zero]
    split
    . rfl
    . split
      . rfl
      . split
        . rfl
        . split <;> rfl
theorem qga : ∀ (a b : List V.Term),l9 b a = - l9 a b
  | [],[]=>by simp only [l9];rfl
  | [],_ :: _=>by simp only [l9];rfl
  | _ :: _,[]=>by simp only [l9]
  | a :: xs,b :: ys=>by
    simp only [l9]
    rw [qgd a b,qga xs ys]
    simp only [ne_eq,Int.neg_eq_zero]
    split <;> rfl
end
mutual
theorem qgc : ∀ (a b : V.Term),cmpT a b = -1 \/ cmpT a b = 0 \/ cmpT a b = 1
  | ⟨o,w,n,nm,ks⟩,b=>by
    rw [cmpT]
    split
    . exact dU _ _
    . split
      . exact dU _ _
      . split
        . exact dU _ _
        . split
          . exact scmp_r _ _
          . exact qf9 _ _
theorem qf9 : ∀ (a b : List V.Term),l9 a b = -1 \/ l9 a b = 0 \/ l9 a b = 1
  | [],[] => .inr (.inl (by simp only [l9]))
  | [],_ :: _ => .inl (by simp only [l9])
  | _ :: _,[] => .inr (.inr (by simp only [l9]))
  | a :: xs,b :: ys=>by
    simp only [l9]
    split
    . exact qgc a b
    . exact qf9 xs ys
end
/-! ### kid by kid -/
structure CmpI (a b : V.Term) (i : Nat) : Prop where
  la : i <= a.kids.length
  lb : i <= b.kids.length
  eq : cmpT a b = l9 (a.kids.drop i) (b.kids.drop i)
theorem jM {l : List V.Term} {i : Nat} (h : (i : Int) < l.length) : l.drop i = kAt l i :: l.drop (i + 1) := by
  have hi : i < l.length := by omega
  rw [List.drop_eq_getElem_cons hi]
  congr 1
  rw [kAt,List.getD_eq_getElem?_getD,List.getElem?_eq_getElem hi];rfl
section
variable {a b : V.Term} {i : Nat}
theorem cmpI_0 (h1 : ¬ s4 a.op b.op ≠ 0) (h2 : ¬ s4 a.w b.w ≠ 0) (h3 : ¬ s4 a.n b.n ≠ 0) (h4 : ¬ scmp a.name b.name ≠ 0) : CmpI a b 0 := by
  refine ⟨Nat.zero_le _,Nat.zero_le _, ?_⟩
  rw [aK,if_neg h1,if_neg h2,if_neg h3,if_neg h4];rfl
theorem cmpI_s (h : CmpI a b i) (h1 : (i : Int) < a.kids.length) (h2 : (i : Int) < b.kids.length) (h0 : ¬ cmpT (kAt a.kids i) (kAt b.kids i) ≠ 0) : CmpI a b (i + 1) := by
  refine ⟨by omega,by omega, ?_⟩
  rw [h.eq,jM h1,jM h2,l9,if_neg h0]
theorem cmpI_f (h : CmpI a b i) (h1 : (i : Int) < a.kids.length) (h2 : (i : Int) < b.kids.length) (h0 : cmpT (kAt a.kids i) (kAt b.kids i) ≠ 0) : cmpT a b = cmpT (kAt a.kids i) (kAt b.kids i) := by
  rw [h.eq,jM h1,jM h2,l9,if_pos h0]
theorem qge (h : CmpI a b i) (h1 : ¬ ((i : Int) < a.kids.length /\ (i : Int) < b.kids.length)) : cmpT a b = s4 a.kids.length b.kids.length := by
  have e1 := h.la
  have e2 := h.lb
  rw [h.eq]
  by_cases ha : (i : Int) < a.kids.length
  . have hb : b.kids.drop i = [] := List.drop_of_length_le omG
    rw [jM ha,hb,l9]
    unfold s4
    rw [if_neg omG,if_pos omG]
  . have ha' : a.kids.drop i = [] := List.drop_of_length_le omG
    rw [ha']
    by_cases hb : (i : Int) < b.kids.length
    . rw [jM hb,l9]
      unfold s4
      rw [if_pos omG]
    . have hb' : b.kids.drop i = [] := List.drop_of_length_le omG
      rw [hb',l9]
      unfold s4
      rw [if_neg omG,if_neg omG]
end
theorem cmp_op {a b : V.Term} (h : s4 a.op b.op ≠ 0) : cmpT a b = s4 a.op b.op := by rw [aK,if_pos h]
theorem cmp_w {a b : V.Term} (h1 : ¬ s4 a.op b.op ≠ 0) (h : s4 a.w b.w ≠ 0) : cmpT a b = s4 a.w b.w := by rw [aK,if_neg h1,if_pos h]
theorem cmp_n {a b : V.Term} (h1 : ¬ s4 a.op b.op ≠ 0) (h2 : ¬ s4 a.w b.w ≠ 0) (h : s4 a.n b.n ≠ 0) : cmpT a b = s4 a.n b.n := by rw [aK,if_neg h1,if_neg h2,if_pos h]
theorem cmp_nm {a b : V.Term} (h1 : ¬ s4 a.op b.op ≠ 0) (h2 : ¬ s4 a.w b.w ≠ 0) (h3 : ¬ s4 a.n b.n ≠ 0) (h : scmp a.name b.name ≠ 0) : cmpT a b = scmp a.name b.name := by rw [aK,if_neg h1,if_neg h2,if_neg h3,if_pos h]
end Vg
namespace Vg
open Go Go.Proofs
theorem aL {a : Int} (h0 : 0 <= a) (h1 : a < 65536) : (BitVec.ofInt IntKind.i64.bits a).toNat = a.toNat := by
  have hb : IntKind.i64.bits = 64 := rfl
  rw [BitVec.toNat_ofInt,hb]
  have : a % ((2 ^ 64 : Nat) : Int) = a := Int.emod_eq_of_lt h0 omG
  rw [this]
theorem wordOf_word {w : Int} (n : Int) (h : inP w 1 16 = true) : wordP w (u9 w n) = true := by
  have F := wf h
  have h2 := F.s2
  have h3 := F.s3
  unfold u9
  rw [if_pos h]
  have e1 : (BitVec.ofInt IntKind.i64.bits n &&& BitVec.ofInt IntKind.i64.bits (2 ^ w.toNat - 1)).toNat <= ((2 : Int) ^ w.toNat - 1).toNat := by
    rw [BitVec.toNat_and,aL (a := 2 ^ w.toNat - 1) omG omG]
    exact Nat.and_le_right
  generalize (BitVec.ofInt IntKind.i64.bits n &&& BitVec.ofInt IntKind.i64.bits (2 ^ w.toNat - 1)).toNat = m at e1
  rw [j3 omG omG]
  exact lC h omG omG
theorem yU (k : Nat) : ((2 : Int) ^ k).toNat = 2 ^ k := by
  have : ((2 : Int) ^ k) = ((2 ^ k : Nat) : Int) := by simp
  rw [this];rfl
theorem gY {w : Int} {a b : Int} (ha : wordP w a = true) (hb : wordP w b = true) (f : Nat -> Nat -> Nat) (hf : ∀ x y n,x < 2 ^ n -> y < 2 ^ n -> f x y < 2 ^ n)
    {v : Nat} (hv : v = f (BitVec.ofInt IntKind.i64.bits a).toNat (BitVec.ofInt IntKind.i64.bits b).toNat) : wordP w (IntKind.i64.wrap (v : Nat)) = true := by
  obtain ⟨hw,a0,a1⟩ := u4 ha
  obtain ⟨_,b0,b1⟩ := u4 hb
  have F := wf hw
  have h2 := F.s2
  rw [aL a0 omG,aL b0 omG] at hv
  have e := yU w.toNat
  have := hf a.toNat b.toNat w.toNat omG omG
  subst hv
  generalize f a.toNat b.toNat = m at this
  rw [j3 omG omG]
  exact lC hw omG omG
theorem cJ {w : Int} (h : inP w 1 16 = true) (b : Bool) : wordP w (p8 b) = true := by
  have F := wf h
  have h3 := F.s3
  cases b
  . exact lC h (by decide) (by show (0 : Int) < _;omega)
  . exact lC h (by decide) (by show (1 : Int) < _;omega)
theorem zero_word {w : Int} (h : inP w 1 16 = true) : wordP w 0 = true := cJ h false
theorem qM {op w a b : Int} (ho : 3 <= op /\ op <= 16) (ha : wordP w a = true) (hb : wordP w b = true) : wordP w (m4 op w a b) = true := by
  obtain ⟨hw,a0,a1⟩ := u4 ha
  obtain ⟨_,b0,b1⟩ := u4 hb
  have F := wf hw
  have h2 := F.s2
  have h3 := F.s3
  unfold m4
  rw [if_pos (by simp [ha,hb])]
  have cases_op : op = 3 \/ op = 4 \/ op = 5 \/ op = 6 \/ op = 7 \/ op = 8 \/ op = 9 \/ op = 10 \/ op = 11 \/ op = 12 \/ op = 13 \/ op = 14 \/ op = 15 \/ op = 16 := by omega
  have hsh : wordP w (dB op w a b) = true := by
    unfold dB
    by_cases h13 : op = 13
    . rw [if_pos h13];exact wordOf_word _ hw
    rw [if_neg h13]
    by_cases hwb : w <= b
    . rw [if_pos hwb];exact zero_word hw
    rw [if_neg hwb]
    by_cases h11 : op = 11
    . rw [if_pos h11];exact wordOf_word _ hw
    rw [if_neg h11]
    have hp : (0 : Int) < 2 ^ min b.toNat IntKind.i64.bits := Int.pow_pos (by decide)
    rw [Int.fdiv_eq_ediv_of_nonneg _ (Int.le_of_lt hp)]
    have e1 := Int.ediv_nonneg a0 (Int.le_of_lt hp)
    have e2 : a / 2 ^ min b.toNat IntKind.i64.bits <= a := Int.ediv_le_self _ a0
    exact lC hw e1 omG
  have hdiv : wordP w (if b = 0 then 2 ^ w.toNat - 1 else IntKind.i64.wrap (a.tdiv b)) = true := by
    by_cases hb0 : b = 0
    . rw [if_pos hb0];exact lC hw omG omG
    . rw [if_neg hb0]
      have e1 : 0 <= a.tdiv b := Int.tdiv_nonneg a0 b0
      have e2 : a.tdiv b <= a := by
        rw [Int.tdiv_eq_ediv_of_nonneg a0]
        exact Int.ediv_le_self b a0
      rw [j3 omG omG]
      exact lC hw e1 omG
  have hrem : wordP w (if b = 0 then a else a.tmod b) = true := by
    by_cases hb0 : b = 0
    . rw [if_pos hb0];exact ha
    . rw [if_neg hb0]
      have e1 : 0 <= a.tmod b := Int.tmod_nonneg b a0
      have e2 : a.tmod b < b := Int.tmod_lt_of_pos a omG
      exact lC hw e1 omG
  have hand := gY ha hb (· &&& ·) (fun x y n hx _=>Nat.lt_of_le_of_lt Nat.and_le_left hx) (v := (BitVec.ofInt IntKind.i64.bits a &&& BitVec.ofInt IntKind.i64.bits b).toNat) (by rw [BitVec.toNat_and])
  have hor := gY ha hb (· ||| ·) (fun x y n hx hy=>Nat.or_lt_two_pow hx hy) (v := (BitVec.ofInt IntKind.i64.bits a ||| BitVec.ofInt IntKind.i64.bits b).toNat) (by rw [BitVec.toNat_or])
  have hxor := gY ha hb (· ^^^ ·) (fun x y n hx hy=>Nat.xor_lt_two_pow hx hy) (v := (BitVec.ofInt IntKind.i64.bits a ^^^ BitVec.ofInt IntKind.i64.bits b).toNat) (by rw [BitVec.toNat_xor])
  generalize IntKind.i64.wrap (BitVec.ofInt IntKind.i64.bits a &&& BitVec.ofInt IntKind.i64.bits b).toNat = v1 at hand ⊢
  generalize IntKind.i64.wrap (BitVec.ofInt IntKind.i64.bits a ||| BitVec.ofInt IntKind.i64.bits b).toNat = v2 at hor ⊢
  generalize IntKind.i64.wrap (BitVec.ofInt IntKind.i64.bits a ^^^ BitVec.ofInt IntKind.i64.bits b).toNat = v3 at hxor ⊢
  generalize (if b = 0 then 2 ^ w.toNat - 1 else IntKind.i64.wrap (a.tdiv b)) = v4 at hdiv ⊢
  generalize (if b = 0 then a else a.tmod b) = v5 at hrem ⊢
  generalize hv6 : dB op w a b = v6 at hsh ⊢
  have t1 := cJ hw (a == b)
  have t2 := cJ hw (decide (a < b))
  have t3 := cJ hw (decide (t7 w a < t7 w b))
  have m1 := wordOf_word (IntKind.i64.wrap (a + b)) hw
  have m2 := wordOf_word (IntKind.i64.wrap (a - b)) hw
  have m3 := wordOf_word (IntKind.i64.wrap (a * b)) hw
  rcases cases_op with rfl|rfl|rfl|rfl|rfl|rfl|rfl|rfl|rfl|rfl|rfl|rfl|rfl|rfl <;> first|exact m1|exact m2|exact m3|exact hdiv|exact hrem|exact hand|exact hor|exact hxor|exact hsh|exact t1|exact t2|exact t3
theorem qhc {w a : Int} (ha : wordP w a = true) : wordP w (r7 1 w a) = true := by
  obtain ⟨hw,a0,a1⟩ := u4 ha
  unfold r7
  rw [if_pos ha,if_pos rfl]
  exact lC hw omG omG
abbrev cT (w n : Int) : V.Term := ⟨0,w,n,ByteArray.empty,[]⟩
abbrev oT (op w n : Int) (ks : List V.Term) : V.Term := ⟨op,w,n,ByteArray.empty,ks⟩
/-! ### what is known of a good term -/
theorem aH (t : V.Term) : okT t = (lD t.op t.w t.n t.name t.kids && (!decide (t.op = 22) || isNameP t.name) && okTs t.kids) := by cases t;rw [okT]
theorem gF : ∀ {ks : List V.Term} {i : Nat},okTs ks = true -> i < ks.length -> okT (kAt ks i) = true
  | t :: ts,0,h,_=>by rw [okTs,Bool.and_eq_true] at h;exact h.1
  | t :: ts,i + 1,h,hi=>by rw [okTs,Bool.and_eq_true] at h;exact gF (ks := ts) (i := i) h.2 (by simpa using hi)
theorem cA {t : V.Term} (h : okT t = true) : NodeOk t.op t.w t.n t.name t.kids := by
  rw [aH,Bool.and_eq_true,Bool.and_eq_true] at h
  exact rC.1 h.1.1
theorem aR {t : V.Term} (h : okT t = true) : okTs t.kids = true := by
  rw [aH,Bool.and_eq_true] at h
  exact h.2
theorem qN {t : V.Term} {i : Nat} (h : okT t = true) (hi : i < t.kids.length) : okT (kAt t.kids i) = true := gF (aR h) hi
theorem yQ {op w n : Int} {ks : List V.Term} (h : NodeOk op w n ByteArray.empty ks) (ho : op ≠ 22) (hk : okTs ks = true) : okT (oT op w n ks) = true := by
  rw [aH,Bool.and_eq_true,Bool.and_eq_true]
  exact ⟨⟨rC.2 h,by simp [ho]⟩,hk⟩
theorem k6 {n lo hi : Int} : inP n lo hi = true ↔ lo <= n /\ n <= hi := by simp [inP]
theorem f8 {t : V.Term} (h : okT t = true) : 1 <= t.w /\ t.w <= 16 := k6.1 (cA h).width
theorem d7 {t : V.Term} (h : okT t = true) : inP t.w 1 16 = true := (cA h).width
theorem zQ {t : V.Term} (h : okT t = true) (h1 : t.op ≠ 0) (h2 : t.op ≠ 19) : t.n = 0 := (cA h).num h1 h2
theorem pN {t : V.Term} (h : okT t = true) (h1 : t.op ≠ 22) : t.name = ByteArray.empty := (cA h).nam h1
theorem lV {t : V.Term} (h : okT t = true) : 0 <= t.op /\ t.op <= 22 := by
  have := (cA h).len
  unfold nA at this
  repeat' split at this
  all_goals omega
theorem yH {t : V.Term} (h : okT t = true) (hk : t.kids ≠ []) : 1 <= t.op /\ t.op <= 21 := by
  have := (cA h).len
  have h1 : 0 < t.kids.length := by
    cases e : t.kids with
    | nil=>exact absurd e hk
    | cons _ _=>simp
  unfold nA at this
  repeat' split at this
  all_goals omega
theorem ks0 {l : List V.Term} (h : (l.length : Int) = 0) : l = [] := by
  cases l with
  | nil=>rfl
  | cons _ _=>simp at h;omega
theorem ks1 {l : List V.Term} (h : (l.length : Int) = 1) : l = [kAt l 0] := by
  match l,h with
  | [a],_=>rfl
  | [],h=>simp at h
  | _ :: _ :: _,h=>simp at h;omega
theorem ks2 {l : List V.Term} (h : (l.length : Int) = 2) : l = [kAt l 0,kAt l 1] := by
  match l,h with
  | [a,b],_=>rfl
  | [],h=>simp at h
  | [_],h=>simp at h
  | _ :: _ :: _ :: _,h=>simp at h;omega
theorem ks3 {l : List V.Term} (h : (l.length : Int) = 3) : l = [kAt l 0,kAt l 1,kAt l 2] := by
  match l,h with
  | [a,b,c],_=>rfl
  | [],h=>simp at h
  | [_],h=>simp at h
  | [_,_],h=>simp at h
  | _ :: _ :: _ :: _ :: _,h=>simp at h;omega
abbrev k0 (t : V.Term) : V.Term := kAt t.kids 0
abbrev k1 (t : V.Term) : V.Term := kAt t.kids 1
abbrev k2 (t : V.Term) : V.Term := kAt t.kids 2
section
variable {t : V.Term}
theorem zD (h : okT t = true) (ho : t.op = 1 \/ t.op = 2 \/ t.op = 19 \/ t.op = 20 \/ t.op = 21) : (t.kids.length : Int) = 1 := by
  rw [(cA h).len];unfold nA;rw [if_neg omG,if_pos ho]
theorem tC (h : okT t = true) (ho : (3 <= t.op /\ t.op <= 16) \/ t.op = 18) : (t.kids.length : Int) = 2 := by
  rw [(cA h).len];unfold nA;rw [if_neg omG,if_neg omG,if_pos ho]
theorem hC (h : okT t = true) (ho : t.op = 17) : (t.kids.length : Int) = 3 := by
  rw [(cA h).len];unfold nA;rw [if_neg omG,if_neg omG,if_neg omG,if_pos ho]
theorem len_c (h : okT t = true) (ho : t.op = 0) : t.kids = [] := by
  apply ks0
  rw [(cA h).len];unfold nA;rw [if_pos omG]
theorem qn0 (h : okT t = true) (ho : t.op = 0) : t = cT t.w t.n := by
  have e1 := len_c h ho
  have e2 := pN h omG
  cases t
  simp only at ho e1 e2
  subst ho e1 e2
  rfl
theorem const_w (h : okT t = true) (ho : t.op = 0) : wordP t.w t.n = true := (cA h).const ho
theorem tF (h : okT t = true) (ho : t.op = 1 \/ t.op = 2) : (k0 t).w = t.w := by
  have := (cA h).fit
  unfold qA at this
  rw [if_neg omG,if_pos ho] at this
  simpa using this
theorem fit_b (h : okT t = true) (ho : 3 <= t.op /\ t.op <= 13) : (k0 t).w = t.w /\ (k1 t).w = t.w := by
  have := (cA h).fit
  unfold qA at this
  rw [if_neg omG,if_neg omG,if_pos ho] at this
  simpa using this
theorem pI (h : okT t = true) (ho : 14 <= t.op /\ t.op <= 16) : (k0 t).w = (k1 t).w /\ t.w = 1 := by
  have := (cA h).fit
  unfold qA at this
  rw [if_neg omG,if_neg omG,if_neg omG,if_pos ho] at this
  simpa using this
theorem xO (h : okT t = true) (ho : t.op = 17) : (k0 t).w = 1 /\ (k1 t).w = t.w /\ (k2 t).w = t.w := by
  have := (cA h).fit
  unfold qA at this
  rw [if_neg omG,if_neg omG,if_neg omG,if_neg omG,if_pos ho] at this
  simp only [Bool.and_eq_true,decide_eq_true_eq] at this
  exact ⟨this.1.1,this.1.2,this.2⟩
theorem rJ (h : okT t = true) (ho : t.op = 18) : (k0 t).w + (k1 t).w = t.w := by
  have := (cA h).fit
  unfold qA at this
  rw [if_neg omG,if_neg omG,if_neg omG,if_neg omG,if_neg omG,if_pos ho] at this
  simpa using this
theorem nB (h : okT t = true) (ho : t.op = 19) : 0 <= t.n /\ t.n <= (k0 t).w - t.w := by
  have := (cA h).fit
  unfold qA at this
  rw [if_neg omG,if_neg omG,if_neg omG,if_neg omG,if_neg omG,if_neg omG,if_pos ho] at this
  simpa using this
theorem sJ (h : okT t = true) (ho : t.op = 20 \/ t.op = 21) : (k0 t).w <= t.w := by
  have := (cA h).fit
  unfold qA at this
  rw [if_neg omG,if_neg omG,if_neg omG,if_neg omG,if_neg omG,if_neg omG,if_neg omG] at this
  simpa using this
theorem ok0 (h : okT t = true) (ho : 1 <= t.op /\ t.op <= 21) : okT (k0 t) = true := by
  apply qN h
  have h1 := zD h
  have h2 := tC h
  have h3 := hC h
  omega
theorem y4 (h : okT t = true) (ho : (3 <= t.op /\ t.op <= 18)) : okT (k1 t) = true := by
  apply qN h
  have h2 := tC h
  have h3 := hC h
  omega
theorem ok2 (h : okT t = true) (ho : t.op = 17) : okT (k2 t) = true := by
  apply qN h
  have h3 := hC h
  omega
end
theorem fI {op w n : Int} {a : V.Term} (ha : okT a = true) (hw : 1 <= w /\ w <= 16) (ho : op = 1 \/ op = 2 \/ op = 19 \/ op = 20 \/ op = 21) (hn : op ≠ 19 -> n = 0) (hf : qA op w n [a] = true) : okT (oT op w n [a]) = true := by
  refine yQ ⟨k6.2 hw, ?_, ?_,hf,fun e=>by omega,fun _ e=>hn e,fun _=>rfl⟩ omG (by simp [okTs,ha])
  . unfold nA;rw [if_neg omG,if_pos ho];rfl
  . simp [d7 ha]
theorem mk_b {op w : Int} {a b : V.Term} (ha : okT a = true) (hb : okT b = true) (hw : 1 <= w /\ w <= 16) (ho : (3 <= op /\ op <= 16) \/ op = 18) (hf : qA op w 0 [a,b] = true) : okT (oT op w 0 [a,b]) = true := by
  refine yQ ⟨k6.2 hw, ?_, ?_,hf,fun e=>by omega,fun _ _=>rfl,fun _=>rfl⟩ omG (by simp [okTs,ha,hb])
  . unfold nA;rw [if_neg omG,if_neg omG,if_pos ho];rfl
  . simp [d7 ha,d7 hb]
theorem mk_i {w : Int} {a b c : V.Term} (ha : okT a = true) (hb : okT b = true) (hc : okT c = true) (hw : 1 <= w /\ w <= 16) (hf : qA 17 w 0 [a,b,c] = true) : okT (oT 17 w 0 [a,b,c]) = true := by
  refine yQ ⟨k6.2 hw, ?_, ?_,hf,fun e=>by omega,fun _ _=>rfl,fun _=>rfl⟩ omG (by simp [okTs,ha,hb,hc])
  . rfl
  . simp [d7 ha,d7 hb,d7 hc]
theorem qB {w n : Int} (h : wordP w n = true) : okT (cT w n) = true := by
  refine yQ ⟨(u4 h).1,rfl,rfl,rfl,fun _=>h,fun e=>absurd rfl e,fun _=>rfl⟩ (by decide) rfl
/-! ### values -/
def v8 (w a low n : Int) : Int := if wordP w a = true /\ 0 <= low /\ 1 <= n /\ n <= w - low then u9 n (Int.fdiv a (2 ^ min low.toNat IntKind.i64.bits)) else -1
def gB (w a v b : Int) : Int := if wordP w a = true /\ wordP v b = true /\ w + v <= 16 then a * 2 ^ v.toNat + b else -1
def z8 (w a n : Int) (s : Bool) : Int := if wordP w a = true /\ w <= n /\ n <= 16 then (if s = true then u9 n (t7 w a) else a) else -1
abbrev xAt (x : List Int) (i : Nat) : Int := x.getD i K.ints.dflt
def w6 (t : V.Term) (x : List Int) : Int :=
  if t.op = 1 \/ t.op = 2 then r7 t.op (k0 t).w (xAt x 0)
  else if 3 <= t.op /\ t.op <= 16 then m4 t.op (k0 t).w (xAt x 0) (xAt x 1)
  else if t.op = 17 then (if xAt x 0 = 1 then xAt x 1 else xAt x 2)
  else if t.op = 18 then gB (k0 t).w (xAt x 0) (k1 t).w (xAt x 1)
  else if t.op = 19 then v8 (k0 t).w (xAt x 0) t.n t.w
  else z8 (k0 t).w (xAt x 0) t.w (t.op == 21)
theorem qhd {op w a : Int} (ho : op = 1 \/ op = 2) (ha : wordP w a = true) : wordP w (r7 op w a) = true := by
  rcases ho with rfl|rfl
  . exact qhc ha
  . have := wordOf_word (IntKind.i64.wrap (0 - a)) (u4 ha).1
    unfold r7
    rw [if_pos ha,if_neg (by decide),if_pos rfl]
    exact this
theorem qom {op w a b : Int} (ho : 14 <= op /\ op <= 16) (ha : wordP w a = true) (hb : wordP w b = true) : wordP 1 (m4 op w a b) = true := by
  have c : op = 14 \/ op = 15 \/ op = 16 := by omega
  have e : (wordP w a && wordP w b) = true := by rw [ha,hb];rfl
  rcases c with rfl|rfl|rfl
  . have : m4 14 w a b = p8 (a == b) := by unfold m4;rw [if_pos e];rfl
    rw [this];exact cJ (by decide) _
  . have : m4 15 w a b = p8 (decide (a < b)) := by unfold m4;rw [if_pos e];rfl
    rw [this];exact cJ (by decide) _
  . have : m4 16 w a b = p8 (decide (t7 w a < t7 w b)) := by unfold m4;rw [if_pos e];rfl
    rw [this];exact cJ (by decide) _
theorem oW {w a v b : Int} (ha : wordP w a = true) (hb : wordP v b = true) (hw : w + v <= 16) : wordP (w + v) (gB w a v b) = true := by
  unfold gB
  rw [if_pos ⟨ha,hb,hw⟩]
  obtain ⟨h1,a0,a1⟩ := u4 ha
  obtain ⟨h2,b0,b1⟩ := u4 hb
  rw [k6] at h1 h2
  have hp : (0 : Int) < 2 ^ v.toNat := Int.pow_pos (by decide)
  have e : (2 : Int) ^ (w + v).toNat = 2 ^ w.toNat * 2 ^ v.toNat := by
    rw [<- Int.pow_add]
    congr 1
    omega
  have h3 : 0 <= a * 2 ^ v.toNat := Int.mul_nonneg a0 (Int.le_of_lt hp)
  have h4 : (a + 1) * 2 ^ v.toNat <= 2 ^ w.toNat * 2 ^ v.toNat := Int.mul_le_mul_of_nonneg_right omG (Int.le_of_lt hp)
  rw [Int.add_mul,Int.one_mul] at h4
  refine lC (k6.2 ⟨by omega,by omega⟩) omG ?_
  rw [e]
  omega
theorem zM {w a n : Int} {s : Bool} (ha : wordP w a = true) (h1 : w <= n) (h2 : n <= 16) : wordP n (z8 w a n s) = true := by
  unfold z8
  rw [if_pos ⟨ha,h1,h2⟩]
  obtain ⟨hw,a0,a1⟩ := u4 ha
  rw [k6] at hw
  have hn : inP n 1 16 = true := k6.2 ⟨by omega,by omega⟩
  split
  . exact wordOf_word _ hn
  . refine lC hn a0 ?_
    have e : n.toNat = w.toNat + (n - w).toNat := by omega
    have hp : (1 : Int) <= 2 ^ (n - w).toNat := by have : (0 : Int) < 2 ^ (n - w).toNat := Int.pow_pos (by decide);omega
    have hq : (0 : Int) <= 2 ^ w.toNat := Int.le_of_lt (Int.pow_pos (by decide))
    have := Int.mul_le_mul_of_nonneg_left hp hq
    rw [e,Int.pow_add]
    omega
theorem pS {w a low n : Int} (ha : wordP w a = true) (h0 : 0 <= low) (h1 : 1 <= n) (h2 : n <= w - low) : wordP n (v8 w a low n) = true := by
  unfold v8
  rw [if_pos ⟨ha,h0,h1,h2⟩]
  have hw := (u4 ha).1
  rw [k6] at hw
  exact wordOf_word _ (k6.2 ⟨h1,by omega⟩)
theorem qhe {t : V.Term} {x : List Int} (h : okT t = true) (ho : 1 <= t.op /\ t.op <= 21) (hx : ∀ i,i < t.kids.length -> wordP (kAt t.kids i).w (xAt x i) = true) : wordP t.w (w6 t x) = true := by
  have hw := f8 h
  have h0 : wordP (k0 t).w (xAt x 0) = true := hx 0 (by have h1 := zD h;have h2 := tC h;have h3 := hC h;omega)
  unfold w6
  by_cases c1 : t.op = 1 \/ t.op = 2
  . rw [if_pos c1]
    have e := tF h c1
    rw [e] at h0 ⊢
    exact qhd c1 h0
  rw [if_neg c1]
  by_cases c2 : 3 <= t.op /\ t.op <= 16
  . rw [if_pos c2]
    have h1 : wordP (k1 t).w (xAt x 1) = true := hx 1 (by have h2 := tC h;omega)
    by_cases c3 : t.op <= 13
    . have e := fit_b h ⟨c2.1,c3⟩
      rw [e.1] at h0 ⊢
      rw [e.2] at h1
      exact qM c2 h0 h1
    . have e := pI h ⟨by omega,c2.2⟩
      rw [e.2]
      rw [<- e.1] at h1
      exact qom ⟨by omega,c2.2⟩ h0 h1
  rw [if_neg c2]
  by_cases c3 : t.op = 17
  . rw [if_pos c3]
    have e := xO h c3
    have h1 : wordP (k1 t).w (xAt x 1) = true := hx 1 (by have h2 := hC h;omega)
    have h2 : wordP (k2 t).w (xAt x 2) = true := hx 2 (by have h2 := hC h;omega)
    rw [e.2.1] at h1
    rw [e.2.2] at h2
    split
    . exact h1
    . exact h2
  rw [if_neg c3]
  by_cases c4 : t.op = 18
  . rw [if_pos c4]
    have h1 : wordP (k1 t).w (xAt x 1) = true := hx 1 (by have h2 := tC h;omega)
    have e := rJ h c4
    have := oW h0 h1 omG
    rwa [e] at this
  rw [if_neg c4]
  by_cases c5 : t.op = 19
  . rw [if_pos c5]
    have e := nB h c5
    exact pS h0 e.1 hw.1 omG
  rw [if_neg c5]
  exact zM h0 (sJ h omG) hw.2
/-! ### the rules -/
def g4 (op : Int) : Prop := op = 3 \/ op = 5 \/ op = 8 \/ op = 9 \/ op = 10 \/ op = 14
instance (op : Int) : Decidable (g4 op) := by unfold g4;infer_instance
abbrev onW (w : Int) : Int := 2 ^ w.toNat - 1
def dF (t : V.Term) : V.Term × Bool := if (k0 t).op = t.op then (k0 (k0 t),false) else (t,false)
def gG (t : V.Term) : V.Term × Bool :=
  if (k0 t).op = 0 /\ (k0 t).n = 1 then (k1 t,false)
  else if (k0 t).op = 0 then (k2 t,false)
  else if cmpT (k1 t) (k2 t) = 0 then (k1 t,false)
  else if (k0 t).op = 1 then (oT 17 t.w 0 [k0 (k0 t),k2 t,k1 t],true)
  else if t.w = 1 /\ ((k1 t).op = 0 /\ (k1 t).n = 1) /\ ((k2 t).op = 0 /\ (k2 t).n = 0) then (k0 t,false)
  else if t.w = 1 /\ ((k1 t).op = 0 /\ (k1 t).n = 0) /\ ((k2 t).op = 0 /\ (k2 t).n = 1) then (oT 1 1 0 [k0 t],true)
  else (t,false)
def iG (t : V.Term) : V.Term × Bool :=
  if t.n = 0 /\ t.w = (k0 t).w then (k0 t,false)
  else if (k0 t).op = 19 then (oT 19 t.w (t.n + (k0 t).n) [k0 (k0 t)],true)
  else if (k0 t).op = 18 /\ t.n + t.w <= (k1 (k0 t)).w then (oT 19 t.w t.n [k1 (k0 t)],true)
  else if (k0 t).op = 18 /\ (k1 (k0 t)).w <= t.n then (oT 19 t.w (t.n - (k1 (k0 t)).w) [k0 (k0 t)],true)
  else if ((k0 t).op = 20 \/ (k0 t).op = 21) /\ t.n + t.w <= (k0 (k0 t)).w then (oT 19 t.w t.n [k0 (k0 t)],true)
  else (t,false)
def eG (t : V.Term) : V.Term × Bool :=
  if t.w = (k0 t).w then (k0 t,false)
  else if (k0 t).op = t.op then (oT t.op t.w 0 [k0 (k0 t)],true)
  else (t,false)
def fG (t : V.Term) : V.Term × Bool :=
  if (k0 t).op = 19 /\ (k1 t).op = 19 /\ (k0 t).n = (k1 t).n + (k1 t).w /\ cmpT (k0 (k0 t)) (k0 (k1 t)) = 0 then (oT 19 t.w (k1 t).n [k0 (k1 t)],true)
  else (t,false)
def a6 (t : V.Term) : V.Term × Bool :=
  if g4 t.op /\ cmpT (k0 t) (k1 t) = 1 then (oT t.op t.w 0 [k1 t,k0 t],true)
  else if (k0 t).op = 0 /\ ((t.op = 3 /\ (k0 t).n = 0) \/ (t.op = 5 /\ (k0 t).n = 1) \/ (t.op = 8 /\ (k0 t).n = onW (k0 t).w) \/ (t.op = 9 /\ (k0 t).n = 0) \/ (t.op = 10 /\ (k0 t).n = 0) \/ (t.op = 14 /\ (k0 t).w = 1 /\ (k0 t).n = 1)) then (k1 t,false)
  else if (k0 t).op = 0 /\ ((t.op = 5 /\ (k0 t).n = 0) \/ (t.op = 8 /\ (k0 t).n = 0)) then (cT t.w 0,false)
  else if (k0 t).op = 0 /\ t.op = 9 /\ (k0 t).n = onW (k0 t).w then (cT t.w (onW (k0 t).w),false)
  else if (k0 t).op = 0 /\ ((t.op = 10 /\ (k0 t).n = onW (k0 t).w) \/ (t.op = 14 /\ (k0 t).w = 1 /\ (k0 t).n = 0)) then (oT 1 t.w 0 [k1 t],true)
  else if (k1 t).op = 0 /\ (k1 t).n = 0 /\ (t.op = 4 \/ t.op = 11 \/ t.op = 12 \/ t.op = 13) then (k0 t,false)
  else if (k1 t).op = 0 /\ (k1 t).n = 0 /\ t.op = 15 then (cT 1 0,false)
  else if cmpT (k0 t) (k1 t) = 0 /\ (t.op = 8 \/ t.op = 9) then (k0 t,false)
  else if cmpT (k0 t) (k1 t) = 0 /\ (t.op = 4 \/ t.op = 10 \/ t.op = 15 \/ t.op = 16) then (cT t.w 0,false)
  else if cmpT (k0 t) (k1 t) = 0 /\ t.op = 14 then (cT 1 1,false)
  else if (g4 t.op /\ t.op ≠ 14) /\ (k0 t).op = 0 /\ (k1 t).op = t.op /\ (k0 (k1 t)).op = 0 then (oT t.op t.w 0 [cT t.w (m4 t.op t.w (k0 t).n (k0 (k1 t)).n),k1 (k1 t)],true)
  else (t,false)
def s5 (t : V.Term) : V.Term × Bool :=
  if t.op = 1 \/ t.op = 2 then dF t
  else if t.op = 17 then gG t
  else if t.op = 19 then iG t
  else if t.op = 20 \/ t.op = 21 then eG t
  else if t.op = 18 then fG t
  else a6 t
def l5 (t : V.Term) : Nat := 2 * sizeT t + (if g4 t.op /\ cmpT (k0 t) (k1 t) = 1 then 1 else 0)
theorem lG {x t : V.Term} (h : sizeT x < sizeT t) : l5 x < l5 t := by
  unfold l5
  split <;> split <;> omega
theorem dJ (t : V.Term) : sizeT t = 1 + g6 t.kids := by cases t;rw [sizeT]
section
variable {t : V.Term}
theorem xG (h : okT t = true) (ho : t.op = 1 \/ t.op = 2 \/ t.op = 19 \/ t.op = 20 \/ t.op = 21) : sizeT t = 1 + sizeT (k0 t) := by
  rw [dJ,ks1 (zD h ho)];simp [g6]
theorem eJ (h : okT t = true) (ho : (3 <= t.op /\ t.op <= 16) \/ t.op = 18) : sizeT t = 1 + (sizeT (k0 t) + sizeT (k1 t)) := by
  rw [dJ,ks2 (tC h ho)];simp [g6]
theorem sz_i (h : okT t = true) (ho : t.op = 17) : sizeT t = 1 + (sizeT (k0 t) + (sizeT (k1 t) + sizeT (k2 t))) := by
  rw [dJ,ks3 (hC h ho)];simp [g6]
end
theorem pH {op w n : Int} {a : V.Term} : sizeT (oT op w n [a]) = 1 + sizeT a := by simp [sizeT,g6]
theorem sz_2 {op w n : Int} {a b : V.Term} : sizeT (oT op w n [a,b]) = 1 + (sizeT a + sizeT b) := by simp [sizeT,g6]
theorem sz_3 {op w n : Int} {a b c : V.Term} : sizeT (oT op w n [a,b,c]) = 1 + (sizeT a + (sizeT b + sizeT c)) := by simp [sizeT,g6]
theorem sz_c {w n : Int} : sizeT (cT w n) = 1 := by simp [sizeT,g6]
theorem b7 {α : Type} {a x : α} {P : Prop} (h : (a,false) = (x,true)) : P := by simp at h
theorem oA {α : Type} {a x : α} (h : (a,true) = (x,true)) : x = a := by simp at h;exact h.symm
theorem fit_bS {op w : Int} {a b : V.Term} (h : qA op w 0 [a,b] = true) (ho : 3 <= op /\ op <= 13 \/ op = 14) : qA op w 0 [b,a] = true := by
  unfold qA at h ⊢
  rw [if_neg omG,if_neg omG] at h ⊢
  rcases ho with ho|ho
  . rw [if_pos ho] at h ⊢
    rw [Bool.and_comm];exact h
  . rw [if_neg omG,if_pos omG] at h ⊢
    simp only [Bool.and_eq_true,decide_eq_true_eq] at h ⊢
    exact ⟨h.1.symm,h.2⟩
theorem p4 {α : Type} {p : Prop} [Decidable p] {a b x : α} (h : (if p then a else b) = x) : (p /\ a = x) \/ (¬ p /\ b = x) := by
  by_cases hp : p
  . rw [if_pos hp] at h;exact .inl ⟨hp,h⟩
  . rw [if_neg hp] at h;exact .inr ⟨hp,h⟩
theorem m9 {t x : V.Term} (h : okT t = true) (ho : 1 <= t.op /\ t.op <= 21) (hr : s5 t = (x,true)) : okT x = true /\ l5 x < l5 t := by
  have hw := f8 h
  have a0 := ok0 h ho
  unfold s5 at hr
  by_cases c1 : t.op = 1 \/ t.op = 2
  . rw [if_pos c1] at hr
    unfold dF at hr
    rcases p4 hr with ⟨_,hr⟩|⟨_,hr⟩ <;> exact b7 hr
  rw [if_neg c1] at hr
  by_cases c2 : t.op = 17
  . rw [if_pos c2] at hr
    have a1 := y4 h omG
    have a2 := ok2 h omG
    have e := xO h c2
    have es := sz_i h c2
    unfold gG at hr
    rcases p4 hr with ⟨c,hr⟩|⟨c,hr⟩
    . exact b7 hr
    rcases p4 hr with ⟨c,hr⟩|⟨c,hr⟩
    . exact b7 hr
    rcases p4 hr with ⟨c,hr⟩|⟨c,hr⟩
    . exact b7 hr
    rcases p4 hr with ⟨c,hr⟩|⟨c,hr⟩
    . obtain rfl := oA hr
      have f := tF a0 (.inl c)
      have s := xG a0 (.inl c)
      refine ⟨mk_i (ok0 a0 omG) a2 a1 hw ?_,lG ?_⟩
      . show (decide ((k0 (k0 t)).w = 1) && decide ((k2 t).w = t.w) && decide ((k1 t).w = t.w)) = true
        simp only [Bool.and_eq_true,decide_eq_true_eq]
        exact ⟨⟨by omega,e.2.2⟩,e.2.1⟩
      . rw [sz_3];omega
    rcases p4 hr with ⟨c,hr⟩|⟨c,hr⟩
    . exact b7 hr
    rcases p4 hr with ⟨c,hr⟩|⟨c,hr⟩
    . obtain rfl := oA hr
      refine ⟨fI a0 omG omG (fun _=>rfl) ?_,lG ?_⟩
      . show decide ((k0 t).w = 1) = true
        exact decide_eq_true e.1
      . rw [pH]
        have := qH (k1 t)
        omega
    . exact b7 hr
  rw [if_neg c2] at hr
  by_cases c3 : t.op = 19
  . rw [if_pos c3] at hr
    have e := nB h c3
    have es := xG h omG
    unfold iG at hr
    rcases p4 hr with ⟨c,hr⟩|⟨c,hr⟩
    . exact b7 hr
    rcases p4 hr with ⟨c,hr⟩|⟨c,hr⟩
    . obtain rfl := oA hr
      have f := nB a0 c
      have s := xG a0 omG
      refine ⟨fI (ok0 a0 omG) hw omG (fun e=>absurd rfl e) ?_,lG (by rw [pH];omega)⟩
      show (decide (0 <= t.n + (k0 t).n) && decide (t.n + (k0 t).n <= (k0 (k0 t)).w - t.w)) = true
      simp only [Bool.and_eq_true,decide_eq_true_eq]
      omega
    rcases p4 hr with ⟨c,hr⟩|⟨c,hr⟩
    . obtain rfl := oA hr
      have f := rJ a0 c.1
      have s := eJ a0 (.inr c.1)
      refine ⟨fI (y4 a0 omG) hw omG (fun e=>absurd rfl e) ?_,lG (by rw [pH];omega)⟩
      show (decide (0 <= t.n) && decide (t.n <= (k1 (k0 t)).w - t.w)) = true
      simp only [Bool.and_eq_true,decide_eq_true_eq]
      omega
    rcases p4 hr with ⟨c,hr⟩|⟨c,hr⟩
    . obtain rfl := oA hr
      have f := rJ a0 c.1
      have s := eJ a0 (.inr c.1)
      refine ⟨fI (ok0 a0 omG) hw omG (fun e=>absurd rfl e) ?_,lG (by rw [pH];omega)⟩
      show (decide (0 <= t.n - (k1 (k0 t)).w) && decide (t.n - (k1 (k0 t)).w <= (k0 (k0 t)).w - t.w)) = true
      simp only [Bool.and_eq_true,decide_eq_true_eq]
      omega
    rcases p4 hr with ⟨c,hr⟩|⟨c,hr⟩
    . obtain rfl := oA hr
      have s := xG a0 omG
      refine ⟨fI (ok0 a0 omG) hw omG (fun e=>absurd rfl e) ?_,lG (by rw [pH];omega)⟩
      show (decide (0 <= t.n) && decide (t.n <= (k0 (k0 t)).w - t.w)) = true
      simp only [Bool.and_eq_true,decide_eq_true_eq]
      omega
    . exact b7 hr
  rw [if_neg c3] at hr
  by_cases c4 : t.op = 20 \/ t.op = 21
  . rw [if_pos c4] at hr
    have e := sJ h c4
    have es := xG h omG
    unfold eG at hr
    rcases p4 hr with ⟨c,hr⟩|⟨c,hr⟩
    . exact b7 hr
    rcases p4 hr with ⟨c,hr⟩|⟨c,hr⟩
    . obtain rfl := oA hr
      have f := sJ a0 omG
      have s := xG a0 omG
      refine ⟨fI (ok0 a0 omG) hw omG (fun _=>rfl) ?_,lG (by rw [pH];omega)⟩
      unfold qA
      rw [if_neg omG,if_neg omG,if_neg omG,if_neg omG,if_neg omG,if_neg omG,if_neg omG]
      show decide ((k0 (k0 t)).w <= t.w) = true
      exact decide_eq_true omG
    . exact b7 hr
  rw [if_neg c4] at hr
  have a1 := y4 h omG
  by_cases c5 : t.op = 18
  . rw [if_pos c5] at hr
    have e := rJ h c5
    have es := eJ h (.inr c5)
    unfold fG at hr
    rcases p4 hr with ⟨c,hr⟩|⟨c,hr⟩
    . obtain rfl := oA hr
      have f0 := nB a0 c.1
      have f := nB a1 c.2.1
      have s := xG a1 omG
      have s0 := xG a0 omG
      have hx : (k0 (k0 t)).w = (k0 (k1 t)).w := by
        have := c.2.2.2
        rw [aK] at this
        by_cases q1 : s4 (k0 (k0 t)).op (k0 (k1 t)).op ≠ 0
        . rw [if_pos q1] at this;exact absurd this q1
        rw [if_neg q1] at this
        by_cases q2 : s4 (k0 (k0 t)).w (k0 (k1 t)).w ≠ 0
        . rw [if_pos q2] at this;exact absurd this q2
        . have q3 : s4 (k0 (k0 t)).w (k0 (k1 t)).w = 0 := by omega
          unfold s4 at q3
          split at q3
          . omega
          . split at q3 <;> omega
      refine ⟨fI (ok0 a1 omG) hw omG (fun e=>absurd rfl e) ?_,lG (by rw [pH];omega)⟩
      show (decide (0 <= (k1 t).n) && decide ((k1 t).n <= (k0 (k1 t)).w - t.w)) = true
      simp only [Bool.and_eq_true,decide_eq_true_eq]
      omega
    . exact b7 hr
  rw [if_neg c5] at hr
  have es := eJ h omG
  unfold a6 at hr
  rcases p4 hr with ⟨c,hr⟩|⟨c,hr⟩
  . obtain rfl := oA hr
    have hs := c.1
    unfold g4 at hs
    have hf := (cA h).fit
    rw [zQ h omG omG,ks2 (tC h omG)] at hf
    refine ⟨mk_b a1 a0 hw omG (fit_bS hf omG), ?_⟩
    unfold l5
    rw [if_pos c,if_neg (fun q=>by
      have q2 : cmpT (k1 t) (k0 t) = 1 := q.2
      rw [qgd] at q2
      omega),sz_2]
    omega
  rcases p4 hr with ⟨c,hr⟩|⟨c,hr⟩
  . exact b7 hr
  rcases p4 hr with ⟨c,hr⟩|⟨c,hr⟩
  . exact b7 hr
  rcases p4 hr with ⟨c,hr⟩|⟨c,hr⟩
  . exact b7 hr
  rcases p4 hr with ⟨c,hr⟩|⟨c,hr⟩
  . obtain rfl := oA hr
    refine ⟨fI a1 hw omG (fun _=>rfl) ?_,lG ?_⟩
    . show decide ((k1 t).w = t.w) = true
      rcases c.2 with q|q
      . exact decide_eq_true (fit_b h omG).2
      . have := pI h omG
        exact decide_eq_true omG
    . rw [pH]
      have := qH (k0 t)
      omega
  rcases p4 hr with ⟨c,hr⟩|⟨c,hr⟩
  . exact b7 hr
  rcases p4 hr with ⟨c,hr⟩|⟨c,hr⟩
  . exact b7 hr
  rcases p4 hr with ⟨c,hr⟩|⟨c,hr⟩
  . exact b7 hr
  rcases p4 hr with ⟨c,hr⟩|⟨c,hr⟩
  . exact b7 hr
  rcases p4 hr with ⟨c,hr⟩|⟨c,hr⟩
  . exact b7 hr
  rcases p4 hr with ⟨c,hr⟩|⟨c,hr⟩
  . obtain rfl := oA hr
    have hs := c.1.1
    have hs2 := c.1.2
    unfold g4 at hs
    have e := fit_b h omG
    have f := fit_b a1 omG
    have b0 := ok0 a1 omG
    have s := eJ a1 omG
    have w0 := const_w a0 c.2.1
    have w1 := const_w b0 c.2.2.2
    have e1 : (k0 t).w = t.w := e.1
    have e2 : (k0 (k1 t)).w = t.w := by rw [f.1];exact e.2
    rw [e1] at w0
    rw [e2] at w1
    have hk := qB (qM (op := t.op) omG w0 w1)
    refine ⟨mk_b hk (y4 a1 omG) hw omG ?_,lG ?_⟩
    . unfold qA
      rw [if_neg omG,if_neg omG,if_pos omG]
      show (decide (t.w = t.w) && decide ((k1 (k1 t)).w = t.w)) = true
      simp only [Bool.and_eq_true,decide_eq_true_eq]
      exact ⟨trivial,by rw [f.2];exact e.2⟩
    . rw [sz_2,sz_c]
      have := qH (k0 t)
      have := qH (k0 (k1 t))
      omega
  . exact b7 hr
/-! ### all rules, one after the other -/
def k5 (ks : List V.Term) : Bool := ks.all fun k=>decide (k.op = 0)
abbrev nums (ks : List V.Term) : List Int := ks.map (·.n)
def dA : Nat -> V.Term -> V.Term
  | 0,t=>t
  | f + 1,t=>if t.kids.length = 0 then t else if k5 t.kids = true then cT t.w (w6 t (nums t.kids)) else if (s5 t).2 = true then dA f (s5 t).1 else (s5 t).1
def j4 (t : V.Term) : V.Term := dA (l5 t + 1) t
theorem qcw : ∀ (f g : Nat) (t : V.Term),okT t = true -> l5 t < f -> l5 t < g -> dA f t = dA g t
  | 0,_,_,_,h,_=>by omega
  | _,0,_,_,_,h=>by omega
  | f + 1,g + 1,t,h,hf,hg=>by
    rw [dA,dA]
    by_cases c1 : t.kids.length = 0
    . rw [if_pos c1,if_pos c1]
    rw [if_neg c1,if_neg c1]
    by_cases c2 : k5 t.kids = true
    . rw [if_pos c2,if_pos c2]
    rw [if_neg c2,if_neg c2]
    by_cases c3 : (s5 t).2 = true
    . rw [if_pos c3,if_pos c3]
      have ho : 1 <= t.op /\ t.op <= 21 := yH h (fun e=>c1 (by rw [e];rfl))
      have := m9 (x := (s5 t).1) h ho (Prod.ext rfl c3)
      exact qcw f g _ this.1 omG omG
    . rw [if_neg c3,if_neg c3]
section
variable {t x : V.Term}
theorem qct (h : t.kids.length = 0) : j4 t = t := by unfold j4;rw [dA,if_pos h]
theorem fR (h : t.kids.length ≠ 0) (hc : k5 t.kids = true) : j4 t = cT t.w (w6 t (nums t.kids)) := by unfold j4;rw [dA,if_neg h,if_pos hc]
theorem qk1 (h : t.kids.length ≠ 0) (hc : k5 t.kids = false) (hr : s5 t = (x,false)) : j4 t = x := by
  unfold j4
  rw [dA,if_neg h,if_neg (by rw [hc];decide),hr,if_neg Bool.false_ne_true]
theorem qk2 (ht : okT t = true) (h : t.kids.length ≠ 0) (hc : k5 t.kids = false) (hr : s5 t = (x,true)) : j4 t = j4 x := by
  have ho : 1 <= t.op /\ t.op <= 21 := yH ht (fun e=>h (by rw [e];rfl))
  obtain ⟨h1,h2⟩ := m9 ht ho hr
  have e : j4 t = dA (l5 t) x := by
    show dA (l5 t + 1) t = _
    rw [dA,if_neg h,if_neg (by rw [hc];decide),hr,if_pos rfl]
  rw [e]
  exact qcw _ _ _ h1 omG omG
end
end Vg
