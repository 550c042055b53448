/- Words in plain numbers: what the operations on words compute. No condition. -/
import Derived.Test.YtfjkpndogncdcaaGreatDoorEvQ
import Derived.Test.YtfjkpndogncdcaaGreatDoorPfQ
import Derived.Test.YtfjkpndogncdcaaGreatDoorSess
import Derived.Test.YtfjkpndogncdcaaGreatDoorTermS
import Derived.Test.YtfjkpndogncdcaaGreatDoorTermRB
namespace Vg
open Go Go.Proofs
theorem xF (k : Nat) : ((2 ^ k : Nat) : Int) = (2 : Int) ^ k := by push_cast; rfl
theorem kU {k : Nat} (h : k <= 16) : (2 : Int) ^ k <= 65536 := by
  have h1 : 2 ^ k <= 2 ^ 16 := Nat.pow_le_pow_right (by decide) h
  have h2 := xF k
  have h3 : (2 : Nat) ^ 16 = 65536 := by decide
  omega
theorem qjx (n : Int) : (BitVec.ofInt IntKind.i64.bits n).toNat = (n % 18446744073709551616).toNat := by
  show (BitVec.ofInt 64 n).toNat = _
  rw [BitVec.toNat_ofInt]; rfl
theorem gH {w n : Int} (h : inP w 1 16 = true) : k9 w n = n % 2 ^ w.toNat := by
  have F := b6.1 h
  have hk : w.toNat <= 16 := by omega
  have hp : (0 : Int) < 2 ^ w.toNat := Int.pow_pos (by decide)
  unfold k9
  rw [if_pos h]
  have e1 : (BitVec.ofInt IntKind.i64.bits (2 ^ w.toNat - 1)).toNat = 2 ^ w.toNat - 1 := by
    have q := kU hk
    rw [vK omG omG]
    have := lU w.toNat
    omega
  have e2 : (BitVec.ofInt IntKind.i64.bits n &&& BitVec.ofInt IntKind.i64.bits (2 ^ w.toNat - 1)).toNat = (n % 18446744073709551616).toNat % 2 ^ w.toNat := by
    rw [BitVec.toNat_and, e1, qjx, Nat.and_two_pow_sub_one_eq_mod]
  rw [e2]
  have h64 : (2 : Int) ^ w.toNat ∣ 18446744073709551616 := by
    have e : (18446744073709551616 : Int) = 2 ^ w.toNat * 2 ^ (64 - w.toNat) := by
      rw [<- Int.pow_add, show w.toNat + (64 - w.toNat) = 64 by omega]; rfl
    rw [e]
    exact Int.dvd_mul_right _ _
  have e3 : (((n % 18446744073709551616).toNat % 2 ^ w.toNat : Nat) : Int) = n % 2 ^ w.toNat := by
    have hn : 0 <= n % 18446744073709551616 := Int.emod_nonneg _ (by decide)
    rw [Int.natCast_emod, Int.toNat_of_nonneg hn, xF, Int.emod_emod_of_dvd _ h64]
  rw [e3]
  have h0 : 0 <= n % 2 ^ w.toNat := Int.emod_nonneg _ omG
  have h1 : n % 2 ^ w.toNat < 2 ^ w.toNat := Int.emod_lt_of_pos _ hp
  have h2 := kU hk
  exact j2 omG omG
theorem sK {w : Int} (h : inP w 1 16 = true) : (2 : Int) ^ w.toNat <= 65536 := by
  have F := b6.1 h
  exact kU omG
theorem aQ (k : Nat) : (0 : Int) < 2 ^ k := Int.pow_pos (by decide)
theorem gJ {w a : Int} (h : wordP w a = true) : a % 2 ^ w.toNat = a := by
  have q := p4 h
  exact Int.emod_eq_of_lt q.2.1 q.2.2
section
variable {w a b c : Int}
theorem qF (ha : wordP w a = true) (hb : wordP w b = true) : (wordP w a && wordP w b) = true := by rw [ha, hb]; rfl
theorem b3 (ha : wordP w a = true) (hb : wordP w b = true) : r3 3 w a b = (a + b) % 2 ^ w.toNat := by
  have q1 := p4 ha; have q2 := p4 hb; have q3 := sK q1.1
  unfold r3
  rw [if_pos (qF ha hb), if_pos rfl, gH q1.1, j2 omG omG]
theorem b4 (ha : wordP w a = true) (hb : wordP w b = true) : r3 4 w a b = (a - b) % 2 ^ w.toNat := by
  have q1 := p4 ha; have q2 := p4 hb; have q3 := sK q1.1
  unfold r3
  rw [if_pos (qF ha hb), if_neg (by decide), if_pos rfl, gH q1.1, j2 omG omG]
theorem b5 (ha : wordP w a = true) (hb : wordP w b = true) : r3 5 w a b = (a * b) % 2 ^ w.toNat := by
  have q1 := p4 ha; have q2 := p4 hb; have q3 := sK q1.1
  have m1 : 0 <= a * b := Int.mul_nonneg q1.2.1 q2.2.1
  have m2 : a * b <= 65536 * 65536 := Int.mul_le_mul omG omG q2.2.1 (by decide)
  unfold r3
  rw [if_pos (qF ha hb), if_neg (by decide), if_neg (by decide), if_pos rfl, gH q1.1, j2 omG omG]
theorem pX (ha : wordP w a = true) (hb : wordP w b = true) {f : Nat -> Nat -> Nat} (hf : ∀ x y n, x < 2 ^ n -> y < 2 ^ n -> f x y < 2 ^ n) : IntKind.i64.wrap ((f (BitVec.ofInt IntKind.i64.bits a).toNat (BitVec.ofInt IntKind.i64.bits b).toNat : Nat) : Int) = (f a.toNat b.toNat : Nat) := by
  have q1 := p4 ha; have q2 := p4 hb; have q3 := sK q1.1
  rw [vK omG omG, vK omG omG]
  have := hf a.toNat b.toNat 16 omG omG
  exact j2 omG omG
theorem b8 (ha : wordP w a = true) (hb : wordP w b = true) : r3 8 w a b = ((a.toNat &&& b.toNat : Nat) : Int) := by
  unfold r3
  rw [if_pos (qF ha hb), if_neg (by decide), if_neg (by decide), if_neg (by decide), if_neg (by decide), if_neg (by decide), if_pos rfl, BitVec.toNat_and]
  exact pX ha hb (f := fun x y => x &&& y) (fun x y n hx _ => Nat.lt_of_le_of_lt Nat.and_le_left hx)
theorem b9 (ha : wordP w a = true) (hb : wordP w b = true) : r3 9 w a b = ((a.toNat ||| b.toNat : Nat) : Int) := by
  unfold r3
  rw [if_pos (qF ha hb), if_neg (by decide), if_neg (by decide), if_neg (by decide), if_neg (by decide), if_neg (by decide), if_neg (by decide), if_pos rfl, BitVec.toNat_or]
  exact pX ha hb (f := fun x y => x ||| y) (fun x y n hx hy => Nat.or_lt_two_pow hx hy)
theorem b10 (ha : wordP w a = true) (hb : wordP w b = true) : r3 10 w a b = ((a.toNat ^^^ b.toNat : Nat) : Int) := by
  unfold r3
  rw [if_pos (qF ha hb), if_neg (by decide), if_neg (by decide), if_neg (by decide), if_neg (by decide), if_neg (by decide), if_neg (by decide), if_neg (by decide), if_pos rfl, BitVec.toNat_xor]
  exact pX ha hb (f := fun x y => x ^^^ y) (fun x y n hx hy => Nat.xor_lt_two_pow hx hy)
theorem b14 (ha : wordP w a = true) (hb : wordP w b = true) : r3 14 w a b = o8 (a == b) := by
  unfold r3
  rw [if_pos (qF ha hb)]; rfl
theorem b15 (ha : wordP w a = true) (hb : wordP w b = true) : r3 15 w a b = o8 (decide (a < b)) := by
  unfold r3
  rw [if_pos (qF ha hb)]; rfl
theorem b16 (ha : wordP w a = true) (hb : wordP w b = true) : r3 16 w a b = o8 (decide (r7 w a < r7 w b)) := by
  unfold r3
  rw [if_pos (qF ha hb)]; rfl
/-! ### laws -/
theorem swap_b {op : Int} (ho : j3 op) (ha : wordP w a = true) (hb : wordP w b = true) : r3 op w a b = r3 op w b a := by
  rcases ho with rfl | rfl | rfl | rfl | rfl | rfl
  . rw [b3 ha hb, b3 hb ha, Int.add_comm]
  . rw [b5 ha hb, b5 hb ha, Int.mul_comm]
  . rw [b8 ha hb, b8 hb ha, Nat.and_comm]
  . rw [b9 ha hb, b9 hb ha, Nat.or_comm]
  . rw [b10 ha hb, b10 hb ha, Nat.xor_comm]
  . rw [b14 ha hb, b14 hb ha]
    congr 1
    by_cases c : a = b
    . subst c; rfl
    . rw [beq_eq_false_iff_ne.2 c, beq_eq_false_iff_ne.2 (fun e => c e.symm)]
theorem fK (ha : wordP w a = true) : a.toNat < 2 ^ w.toNat := by
  have q := p4 ha
  have := xF w.toNat
  omega
theorem qU (w : Int) : (onW w).toNat = 2 ^ w.toNat - 1 := by
  have := lU w.toNat
  have := aQ w.toNat
  show ((2 : Int) ^ w.toNat - 1).toNat = _
  omega
theorem back (ha : wordP w a = true) : ((a.toNat : Nat) : Int) = a := Int.toNat_of_nonneg (p4 ha).2.1
theorem qnj (ha : wordP w a = true) (hw : wordP w (onW w) = true) : r3 8 w (onW w) a = a := by
  rw [b8 hw ha, Nat.and_comm, qU, Nat.and_two_pow_sub_one_eq_mod, Nat.mod_eq_of_lt (fK ha), back ha]
theorem or_ones (ha : wordP w a = true) (hw : wordP w (onW w) = true) : r3 9 w (onW w) a = onW w := by
  have h := fK ha
  rw [b9 hw ha]
  have e : (onW w).toNat ||| a.toNat = (onW w).toNat := by
    rw [qU]
    apply Nat.eq_of_testBit_eq
    intro i
    rw [Nat.testBit_or, Nat.testBit_two_pow_sub_one]
    by_cases c : i < w.toNat
    . rw [decide_eq_true c, Bool.true_or]
    . rw [decide_eq_false c, Bool.false_or]
      exact Nat.testBit_lt_two_pow (Nat.lt_of_lt_of_le h (Nat.pow_le_pow_right (by decide) omG))
  rw [e, back hw]
theorem qgz (ha : wordP w a = true) (hw : wordP w (onW w) = true) : r3 10 w (onW w) a = p7 1 w a := by
  have h := fK ha
  have q := p4 ha
  rw [b10 hw ha]
  have e : (onW w).toNat ^^^ a.toNat = 2 ^ w.toNat - (a.toNat + 1) := by
    rw [qU]
    apply Nat.eq_of_testBit_eq
    intro i
    rw [Nat.testBit_xor, Nat.testBit_two_pow_sub_one, Nat.testBit_two_pow_sub_succ h]
    by_cases c : i < w.toNat
    . rw [decide_eq_true c, Bool.true_xor, Bool.true_and]
    . rw [decide_eq_false c, Bool.false_xor, Bool.false_and]
      exact Nat.testBit_lt_two_pow (Nat.lt_of_lt_of_le h (Nat.pow_le_pow_right (by decide) omG))
  rw [e]
  unfold p7
  rw [if_pos ha, if_pos rfl]
  have := xF w.toNat
  omega
end
/-! ### equal in order is equal -/
theorem pT {a b : Int} (h : o4 a b = 0) : a = b := by
  unfold o4 at h
  split at h
  . omega
  . split at h <;> omega
theorem scmp_0 {a b : ByteArray} (h : scmp a b = 0) : a = b := by
  unfold scmp at h
  by_cases c : a = b
  . exact c
  . split at h
    . cases h
    . split at h
      . cases h
      . next p q => exact absurd (oK c (by simpa using p)) q
mutual
theorem xL : ∀ (a b : V.Term), cmpT a b = 0 -> a = b
  | ⟨o, w, n, nm, ks⟩, ⟨o', w', n', nm', ks'⟩, h => by
    rw [cmpT] at h
    simp only at h
    by_cases c1 : o4 o o' = 0
    . rw [if_neg (by simp [c1])] at h
      by_cases c2 : o4 w w' = 0
      . rw [if_neg (by simp [c2])] at h
        by_cases c3 : o4 n n' = 0
        . rw [if_neg (by simp [c3])] at h
          by_cases c4 : scmp nm nm' = 0
          . rw [if_neg (by simp [c4])] at h
            have e5 := qfm ks ks' h
            obtain rfl := pT c1
            obtain rfl := pT c2
            obtain rfl := pT c3
            obtain rfl := scmp_0 c4
            rw [e5]
          . rw [if_pos c4] at h; exact absurd h c4
        . rw [if_pos c3] at h; exact absurd h c3
      . rw [if_pos c2] at h; exact absurd h c2
    . rw [if_pos c1] at h; exact absurd h c1
theorem qfm : ∀ (a b : List V.Term), j9 a b = 0 -> a = b
  | [], [], _ => rfl
  | [], _ :: _, h => by rw [j9] at h; cases h
  | _ :: _, [], h => by rw [j9] at h; cases h
  | a :: xs, b :: ys, h => by
    rw [j9] at h
    by_cases c : cmpT a b = 0
    . rw [if_neg (by simp [c])] at h
      rw [xL a b c, qfm xs ys h]
    . rw [if_pos c] at h; exact absurd h c
end
/-! ### cuts and joins -/
theorem gF {w a low n : Int} (ha : wordP w a = true) (h0 : 0 <= low) (h1 : 1 <= n) (h2 : n <= w - low) : v8 w a low n = ((a.toNat / 2 ^ low.toNat % 2 ^ n.toNat : Nat) : Int) := by
  have q := p4 ha
  have F := b6.1 q.1
  unfold v8
  rw [if_pos ⟨ha, h0, h1, h2⟩, gH (b6.2 ⟨h1, by omega⟩)]
  have e : min low.toNat IntKind.i64.bits = low.toNat := by
    have : IntKind.i64.bits = 64 := rfl
    omega
  rw [e, Int.fdiv_eq_ediv_of_nonneg _ (Int.le_of_lt (aQ _)), <- back ha, Int.natCast_emod, Int.natCast_ediv, xF, xF]
  rfl
theorem eX {w a low n : Int} (ha : wordP w a = true) (h0 : 0 <= low) (h1 : 1 <= n) (h2 : n <= w - low) : (v8 w a low n).toNat = a.toNat / 2 ^ low.toNat % 2 ^ n.toNat := by
  rw [gF ha h0 h1 h2]; rfl
theorem yV {w a v b : Int} (ha : wordP w a = true) (hb : wordP v b = true) (hw : w + v <= 16) : eB w a v b = ((a.toNat * 2 ^ v.toNat + b.toNat : Nat) : Int) := by
  unfold eB
  rw [if_pos ⟨ha, hb, hw⟩, Int.natCast_add, Int.natCast_mul, back ha, back hb, xF]
theorem fV (x : Nat) {l n v : Nat} (h : l + n <= v) : x % 2 ^ v / 2 ^ l % 2 ^ n = x / 2 ^ l % 2 ^ n := by
  have e : 2 ^ v = 2 ^ l * 2 ^ (v - l) := by rw [<- Nat.pow_add]; congr 1; omega
  rw [e, Nat.mod_mul_right_div_self, Nat.mod_mod_of_dvd]
  exact Nat.pow_dvd_pow 2 omG
theorem cut_all {w a : Int} (ha : wordP w a = true) : v8 w a 0 w = a := by
  have q := p4 ha
  have F := b6.1 q.1
  rw [gF ha (Int.le_refl 0) omG omG]
  show ((a.toNat / 2 ^ 0 % 2 ^ w.toNat : Nat) : Int) = a
  rw [Nat.pow_zero, Nat.div_one, Nat.mod_eq_of_lt (fK ha), back ha]
theorem cut_cut {w a l v m n : Int} (ha : wordP w a = true) (h0 : 0 <= l) (h1 : 1 <= v) (h2 : v <= w - l) (h3 : 0 <= m) (h4 : 1 <= n) (h5 : n <= v - m) : v8 v (v8 w a l v) m n = v8 w a (m + l) n := by
  have hc := xR ha h0 h1 h2
  rw [gF hc h3 h4 h5, eX ha h0 h1 h2, gF ha omG h4 omG, fV _ omG, Nat.div_div_eq_div_mul, <- Nat.pow_add, show l.toNat + m.toNat = (m + l).toNat by omega]
theorem cut_low {w a v b l n : Int} (ha : wordP w a = true) (hb : wordP v b = true) (hw : w + v <= 16) (h0 : 0 <= l) (h1 : 1 <= n) (h2 : l + n <= v) : v8 (w + v) (eB w a v b) l n = v8 v b l n := by
  have qa := b6.1 (p4 ha).1
  have hj := xV ha hb hw
  rw [gF hj h0 h1 omG, yV ha hb hw, gF hb h0 h1 omG]
  have e : ((a.toNat * 2 ^ v.toNat + b.toNat : Nat) : Int).toNat = a.toNat * 2 ^ v.toNat + b.toNat := rfl
  rw [e, <- fV (a.toNat * 2 ^ v.toNat + b.toNat) (show l.toNat + n.toNat <= v.toNat by omega), Nat.mul_add_mod_self_right, Nat.mod_eq_of_lt (fK hb)]
theorem qmu {w a v b l n : Int} (ha : wordP w a = true) (hb : wordP v b = true) (hw : w + v <= 16) (h0 : v <= l) (h1 : 1 <= n) (h2 : n <= w + v - l) : v8 (w + v) (eB w a v b) l n = v8 w a (l - v) n := by
  have qb := b6.1 (p4 hb).1
  have hj := xV ha hb hw
  rw [gF hj omG h1 h2, yV ha hb hw, gF ha omG h1 omG]
  have e : ((a.toNat * 2 ^ v.toNat + b.toNat : Nat) : Int).toNat = a.toNat * 2 ^ v.toNat + b.toNat := rfl
  have e2 : 2 ^ l.toNat = 2 ^ v.toNat * 2 ^ (l - v).toNat := by rw [<- Nat.pow_add]; congr 1; omega
  have e3 : (a.toNat * 2 ^ v.toNat + b.toNat) / 2 ^ v.toNat = a.toNat := by
    rw [Nat.mul_comm, Nat.mul_add_div (Nat.two_pow_pos _), Nat.div_eq_of_lt (fK hb), Nat.add_zero]
  rw [e, e2, <- Nat.div_div_eq_div_mul, e3]
theorem qkm {w a l v n : Int} (ha : wordP w a = true) (h0 : 0 <= l) (h1 : 1 <= v) (h2 : 1 <= n) (h3 : n <= w - (l + v)) : eB n (v8 w a (l + v) n) v (v8 w a l v) = v8 w a l (n + v) := by
  have q := b6.1 (p4 ha).1
  have c1 := xR ha (show 0 <= l + v by omega) h2 h3
  have c2 := xR ha h0 h1 omG
  rw [yV c1 c2 omG, eX ha omG h2 h3, eX ha h0 h1 omG, gF ha h0 omG omG]
  have e1 : (l + v).toNat = l.toNat + v.toNat := by omega
  have e2 : (n + v).toNat = v.toNat + n.toNat := by omega
  rw [e1, e2, Nat.pow_add, Nat.pow_add, <- Nat.div_div_eq_div_mul, Nat.mod_mul, Nat.mul_comm, Nat.add_comm]
/-! ### wider words -/
theorem gW {w : Int} (h : 1 <= w) : (2 : Int) ^ w.toNat = 2 * 2 ^ (w - 1).toNat := by
  rw [show w.toNat = (w - 1).toNat + 1 by omega, Int.pow_succ, Int.mul_comm]
theorem sg_n {w a : Int} (ha : wordP w a = true) : r7 w a = if a < 2 ^ (w - 1).toNat then a else a - 2 ^ w.toNat := by
  have q := p4 ha
  have F := b6.1 q.1
  have hp := aQ (w - 1).toNat
  have hh := gW F.1
  unfold r7
  rw [if_pos ha, Int.fdiv_eq_ediv_of_nonneg _ (Int.le_of_lt hp)]
  by_cases c : a < 2 ^ (w - 1).toNat
  . rw [if_pos c, if_pos (Int.ediv_eq_zero_of_lt q.2.1 c)]
  . rw [if_neg c, if_neg]
    intro e
    apply c
    have := Int.lt_ediv_add_one_mul_self a hp
    rw [e] at this
    omega
theorem sg_r {w a : Int} (ha : wordP w a = true) : - 2 ^ (w - 1).toNat <= r7 w a /\ r7 w a < 2 ^ (w - 1).toNat := by
  have q := p4 ha
  have F := b6.1 q.1
  have hh := gW F.1
  have hp := aQ (w - 1).toNat
  rw [sg_n ha]
  split <;> omega
theorem sg_m {w a : Int} (ha : wordP w a = true) : r7 w a % 2 ^ w.toNat = a := by
  have q := p4 ha
  rw [sg_n ha]
  split
  . exact gJ ha
  . rw [Int.sub_emod_right]; exact gJ ha
theorem qjm {v w : Int} (h : v <= w) : (2 : Int) ^ v.toNat <= 2 ^ w.toNat := by
  have h1 : 2 ^ v.toNat <= 2 ^ w.toNat := Nat.pow_le_pow_right (by decide) omG
  have h2 := xF v.toNat
  have h3 := xF w.toNat
  omega
theorem pow_dvd {v w : Int} (h : v <= w) : (2 : Int) ^ v.toNat ∣ 2 ^ w.toNat := by
  have e : (2 : Int) ^ w.toNat = 2 ^ v.toNat * 2 ^ (w.toNat - v.toNat) := by rw [<- Int.pow_add, show v.toNat + (w.toNat - v.toNat) = w.toNat by omega]
  rw [e]
  exact Int.dvd_mul_right _ _
theorem gK {w a n : Int} (ha : wordP w a = true) (h1 : w <= n) (h2 : n <= 16) : d9 w a n false = a := by
  unfold d9
  rw [if_pos ⟨ha, h1, h2⟩, if_neg Bool.false_ne_true]
theorem iK {w a n : Int} (ha : wordP w a = true) (h1 : w <= n) (h2 : n <= 16) : d9 w a n true = r7 w a % 2 ^ n.toNat := by
  have F := b6.1 (p4 ha).1
  unfold d9
  rw [if_pos ⟨ha, h1, h2⟩, if_pos rfl, gH (b6.2 ⟨by omega, h2⟩)]
theorem qg2 {w a : Int} (ha : wordP w a = true) (s : Bool) : d9 w a w s = a := by
  have F := b6.1 (p4 ha).1
  cases s
  . exact gK ha (Int.le_refl _) F.2
  . rw [iK ha (Int.le_refl _) F.2]; exact sg_m ha
theorem sg_wid {w a n : Int} (ha : wordP w a = true) (h1 : w <= n) (h2 : n <= 16) : r7 n (r7 w a % 2 ^ n.toNat) = r7 w a := by
  have F := b6.1 (p4 ha).1
  have hs := sg_r ha
  have hn := iK ha h1 h2
  have hw := iM (s := true) ha h1 h2
  rw [hn] at hw
  have hm := qjm (v := w - 1) (w := n - 1) omG
  have hh := gW (w := n) omG
  rw [sg_n hw]
  by_cases c : 0 <= r7 w a
  . rw [Int.emod_eq_of_lt c omG, if_pos omG]
  . have e : r7 w a % 2 ^ n.toNat = r7 w a + 2 ^ n.toNat := by
      rw [<- Int.add_emod_right]
      exact Int.emod_eq_of_lt omG omG
    rw [e, if_neg omG]
    omega
theorem wid_wid {w a n m : Int} (s : Bool) (ha : wordP w a = true) (h1 : w <= n) (h2 : n <= m) (h3 : m <= 16) : d9 n (d9 w a n s) m s = d9 w a m s := by
  have hw := iM (s := s) ha h1 (show n <= 16 by omega)
  cases s
  . rw [gK hw h2 h3, gK ha h1 omG, gK ha omG h3]
  . rw [iK hw h2 h3, iK ha h1 omG, iK ha omG h3, sg_wid ha h1 omG]
theorem wid_mod {w a n : Int} (s : Bool) (ha : wordP w a = true) (h1 : w <= n) (h2 : n <= 16) : (d9 w a n s).toNat % 2 ^ w.toNat = a.toNat := by
  have hw := iM (s := s) ha h1 h2
  have e : d9 w a n s % 2 ^ w.toNat = a := by
    cases s
    . rw [gK ha h1 h2]; exact gJ ha
    . rw [iK ha h1 h2, Int.emod_emod_of_dvd _ (pow_dvd h1)]
      exact sg_m ha
  have e2 := congrArg Int.toNat e
  rw [<- e2, <- back hw, <- xF, <- Int.natCast_emod]
  rfl
theorem cut_wid {w a v l n : Int} (s : Bool) (ha : wordP w a = true) (h1 : w <= v) (h2 : v <= 16) (h3 : 0 <= l) (h4 : 1 <= n) (h5 : l + n <= w) : v8 v (d9 w a v s) l n = v8 w a l n := by
  have hw := iM (s := s) ha h1 h2
  rw [gF hw h3 h4 omG, gF ha h3 h4 omG, <- wid_mod s ha h1 h2, fV _ omG]
/-! ### signs -/
theorem u1 {w a : Int} (ha : wordP w a = true) : p7 1 w a = 2 ^ w.toNat - 1 - a := by
  unfold p7
  rw [if_pos ha, if_pos rfl]
theorem u2 {w a : Int} (ha : wordP w a = true) : p7 2 w a = (- a) % 2 ^ w.toNat := by
  have q := p4 ha
  have q3 := sK q.1
  unfold p7
  rw [if_pos ha, if_neg (by decide), if_pos rfl, gH q.1, j2 omG omG, Int.zero_sub]
theorem uu {op w a : Int} (ho : op = 1 \/ op = 2) (ha : wordP w a = true) : p7 op w (p7 op w a) = a := by
  have hu := qgi ho ha
  rcases ho with rfl | rfl
  . rw [u1 hu, u1 ha]; omega
  . rw [u2 hu, u2 ha]
    have e : - ((- a) % 2 ^ w.toNat) = a + 2 ^ w.toNat * ((- a) / 2 ^ w.toNat) := by
      rw [Int.emod_def]; omega
    rw [e, Int.add_mul_emod_self_left]
    exact gJ ha
theorem sh0 {op w a : Int} (ho : op = 11 \/ op = 12 \/ op = 13) (ha : wordP w a = true) (h0 : wordP w 0 = true) : r3 op w a 0 = a := by
  have q := p4 ha
  have F := b6.1 q.1
  have q3 := sK q.1
  have e : r3 op w a 0 = cB op w a 0 := by
    unfold r3
    rw [if_pos (qF ha h0), if_neg omG, if_neg omG, if_neg omG, if_neg omG, if_neg omG, if_neg omG, if_neg omG, if_neg omG, if_pos ho]
  rw [e]
  have e0 : min (0 : Int).toNat IntKind.i64.bits = 0 := rfl
  unfold cB
  by_cases c : op = 13
  . rw [if_pos c, if_neg (show ¬ w - 1 < 0 by omega), e0, Int.pow_zero, Int.fdiv_one, gH q.1]
    exact sg_m ha
  rw [if_neg c, if_neg omG, e0, Int.pow_zero, Int.mul_one, Int.fdiv_one]
  by_cases c2 : op = 11
  . rw [if_pos c2, gH q.1, j2 omG omG]
    exact gJ ha
  . rw [if_neg c2]
/-! ### in any order, in any brackets -/
theorem qf6 {w a b : Int} (ha : wordP w a = true) (hb : wordP w b = true) : (r3 8 w a b).toNat = a.toNat &&& b.toNat := by rw [b8 ha hb]; rfl
theorem qf5 {w a b : Int} (ha : wordP w a = true) (hb : wordP w b = true) : (r3 9 w a b).toNat = a.toNat ||| b.toNat := by rw [b9 ha hb]; rfl
theorem qf7 {w a b : Int} (ha : wordP w a = true) (hb : wordP w b = true) : (r3 10 w a b).toNat = a.toNat ^^^ b.toNat := by rw [b10 ha hb]; rfl
theorem assoc_b {op w a b c : Int} (ho : j3 op) (h14 : op ≠ 14) (ha : wordP w a = true) (hb : wordP w b = true) (hc : wordP w c = true) : r3 op w (r3 op w a b) c = r3 op w a (r3 op w b c) := by
  have hr : 3 <= op /\ op <= 16 := by unfold j3 at ho; omega
  have hab := sO (op := op) hr ha hb
  have hbc := sO (op := op) hr hb hc
  rcases ho with rfl | rfl | rfl | rfl | rfl | rfl
  . rw [b3 hab hc, b3 ha hbc, b3 ha hb, b3 hb hc, Int.emod_add_emod, Int.add_emod_emod, Int.add_assoc]
  . rw [b5 hab hc, b5 ha hbc, b5 ha hb, b5 hb hc, Int.mul_emod, Int.emod_emod_of_dvd _ (Int.dvd_refl _), <- Int.mul_emod, Int.mul_emod a, Int.emod_emod_of_dvd _ (Int.dvd_refl _), <- Int.mul_emod, Int.mul_assoc]
  . rw [b8 hab hc, b8 ha hbc, qf6 ha hb, qf6 hb hc, Nat.and_assoc]
  . rw [b9 hab hc, b9 ha hbc, qf5 ha hb, qf5 hb hc, Nat.or_assoc]
  . rw [b10 hab hc, b10 ha hbc, qf7 ha hb, qf7 hb hc, Nat.xor_assoc]
  . exact absurd rfl h14
section
variable {σ : ByteArray -> Int}
theorem gG {l : List V.Term} {i : Nat} : xAt (w5 σ l) i = evT σ (kAt l i) := by
  by_cases h : i < l.length
  . exact fO h
  . have e1 : kAt l i = K.terms.dflt := by
      unfold kAt
      rw [List.getD_eq_getElem?_getD, List.getElem?_eq_none omG]; rfl
    have e2 : xAt (w5 σ l) i = K.ints.dflt := by
      unfold xAt
      rw [List.getD_eq_getElem?_getD, List.getElem?_eq_none (by rw [eO]; omega)]; rfl
    rw [e1, e2]
    show (0 : Int) = evT σ ⟨0, 0, 0, ByteArray.empty, []⟩
    rw [evT, if_pos rfl]
theorem pA {t : V.Term} (ho : t.op = 0) : evT σ t = t.n := by rw [wB, if_pos ho]
theorem eF {w n : Int} : evT σ (cT w n) = n := pA rfl
theorem iI {t : V.Term} (ho : t.op = 1 \/ t.op = 2) : evT σ t = p7 t.op (k0 t).w (evT σ (k0 t)) := by
  rw [wB, if_neg omG, if_neg omG]
  unfold m6
  rw [if_pos ho, gG]
theorem vB {t : V.Term} (ho : 3 <= t.op /\ t.op <= 16) : evT σ t = r3 t.op (k0 t).w (evT σ (k0 t)) (evT σ (k1 t)) := by
  rw [wB, if_neg omG, if_neg omG]
  unfold m6
  rw [if_neg omG, if_pos ho, gG, gG]
theorem fG {t : V.Term} (ho : t.op = 17) : evT σ t = if evT σ (k0 t) = 1 then evT σ (k1 t) else evT σ (k2 t) := by
  rw [wB, if_neg omG, if_neg omG]
  unfold m6
  rw [if_neg omG, if_neg omG, if_pos ho, gG, gG, gG]
theorem ev_j {t : V.Term} (ho : t.op = 18) : evT σ t = eB (k0 t).w (evT σ (k0 t)) (k1 t).w (evT σ (k1 t)) := by
  rw [wB, if_neg omG, if_neg omG]
  unfold m6
  rw [if_neg omG, if_neg omG, if_neg omG, if_pos ho, gG, gG]
theorem dF {t : V.Term} (ho : t.op = 19) : evT σ t = v8 (k0 t).w (evT σ (k0 t)) t.n t.w := by
  rw [wB, if_neg omG, if_neg omG]
  unfold m6
  rw [if_neg omG, if_neg omG, if_neg omG, if_neg omG, if_pos ho, gG]
theorem qJ {t : V.Term} (ho : t.op = 20 \/ t.op = 21) : evT σ t = d9 (k0 t).w (evT σ (k0 t)) t.w (t.op == 21) := by
  rw [wB, if_neg omG, if_neg omG]
  unfold m6
  rw [if_neg omG, if_neg omG, if_neg omG, if_neg omG, if_neg omG, gG]
structure GT (σ : ByteArray -> Int) (t : V.Term) : Prop where
  ok : okT t = true
  gv : v7 σ t
theorem GT.wd {t : V.Term} (h : GT σ t) : wordP t.w (evT σ t) = true := pJ h.ok h.gv
theorem GT.k0 {t : V.Term} (h : GT σ t) (ho : 1 <= t.op /\ t.op <= 21) : GT σ (k0 t) := ⟨ok0 h.ok ho, fun v hv => h.gv v (uB hv)⟩
theorem GT.k1 {t : V.Term} (h : GT σ t) (ho : 3 <= t.op /\ t.op <= 18) : GT σ (k1 t) := ⟨r4 h.ok ho, fun v hv => h.gv v (wG hv)⟩
theorem GT.k2 {t : V.Term} (h : GT σ t) (ho : t.op = 17) : GT σ (k2 t) := ⟨ok2 h.ok ho, fun v hv => h.gv v (wV hv)⟩
theorem e8 {c : Prop} [Decidable c] {a b : V.Term × Bool} {P : V.Term -> Prop} (ha : c -> P a.1) (hb : ¬ c -> P b.1) : P (if c then a else b).1 := by
  by_cases q : c
  . rw [if_pos q]; exact ha q
  . rw [if_neg q]; exact hb q
theorem wO {a : Int} (h : wordP 1 a = true) : a = 0 \/ a = 1 := by
  have := p4 h
  have e : (2 : Int) ^ (1 : Int).toNat = 2 := rfl
  omega
variable {t : V.Term}
theorem redU_ev (h : GT σ t) (ho : t.op = 1 \/ t.op = 2) : evT σ (oE t).1 = evT σ t := by
  unfold oE
  refine e8 (P := fun x => evT σ x = evT σ t) (fun c => ?_) (fun _ => rfl)
  have h0 := h.k0 omG
  have h00 := h0.k0 omG
  have f0 := cF h.ok ho
  have f1 := cF h0.ok omG
  have hw := h00.wd
  rw [f1] at hw
  show evT σ (k0 (k0 t)) = _
  rw [iI ho, iI (t := k0 t) omG, c, f1, uu ho hw]
theorem redI_ev (h : GT σ t) (ho : t.op = 17) : evT σ (vF t).1 = evT σ t := by
  have h0 := h.k0 omG
  have h1 := h.k1 omG
  have h2 := h.k2 ho
  have f := bO h.ok ho
  have w0 := h0.wd
  rw [f.1] at w0
  have z0 := wO w0
  unfold vF
  refine e8 (P := fun x => evT σ x = evT σ t) (fun c => ?_) (fun c1 => ?_)
  . rw [fG ho, pA c.1, if_pos c.2]
  refine e8 (P := fun x => evT σ x = evT σ t) (fun c => ?_) (fun c2 => ?_)
  . rw [fG ho, pA c, if_neg (fun e => c1 ⟨c, e⟩)]
  refine e8 (P := fun x => evT σ x = evT σ t) (fun c => ?_) (fun c3 => ?_)
  . have e := xL _ _ c
    rw [fG ho, <- e]
    split <;> rfl
  refine e8 (P := fun x => evT σ x = evT σ t) (fun c => ?_) (fun c4 => ?_)
  . have h00 := h0.k0 omG
    have f0 := cF h0.ok (.inl c)
    have w00 := h00.wd
    rw [f0, f.1] at w00
    have z := wO w00
    have e0 : evT σ (k0 t) = 1 - evT σ (k0 (k0 t)) := by
      rw [iI (.inl c), f0, f.1, c, u1 w00]; rfl
    show evT σ (oT 17 t.w 0 [k0 (k0 t), k2 t, k1 t]) = _
    have e1 : evT σ (oT 17 t.w 0 [k0 (k0 t), k2 t, k1 t]) = if evT σ (k0 (k0 t)) = 1 then evT σ (k2 t) else evT σ (k1 t) := fG (t := oT 17 t.w 0 [k0 (k0 t), k2 t, k1 t]) rfl
    rw [e1, fG ho, e0]
    rcases z with z | z <;> (rw [z]; simp)
  refine e8 (P := fun x => evT σ x = evT σ t) (fun c => ?_) (fun c5 => ?_)
  . rw [fG ho, pA c.2.1.1, pA c.2.2.1, c.2.1.2, c.2.2.2]
    show evT σ (k0 t) = _
    rcases z0 with z | z <;> (rw [z]; simp)
  refine e8 (P := fun x => evT σ x = evT σ t) (fun c => ?_) (fun _ => rfl)
  . rw [fG ho, pA c.2.1.1, pA c.2.2.1, c.2.1.2, c.2.2.2]
    show evT σ (oT 1 1 0 [k0 t]) = _
    have e1 : evT σ (oT 1 1 0 [k0 t]) = p7 1 (k0 t).w (evT σ (k0 t)) := iI (t := oT 1 1 0 [k0 t]) (.inl rfl)
    rw [e1, f.1, u1 w0]
    rcases z0 with z | z <;> (rw [z]; rfl)
theorem redC_ev (h : GT σ t) (ho : t.op = 19) : evT σ (wF t).1 = evT σ t := by
  have h0 := h.k0 omG
  have f := nB h.ok ho
  have w0 := h0.wd
  have tw := d8 h.ok
  have eo : ∀ (n : Int) (x : V.Term), evT σ (oT 19 t.w n [x]) = v8 x.w (evT σ x) n t.w := fun n x => dF (t := oT 19 t.w n [x]) rfl
  unfold wF
  refine e8 (P := fun x => evT σ x = evT σ t) (fun c => ?_) (fun c1 => ?_)
  . rw [dF ho, c.1, c.2]
    exact (cut_all w0).symm
  refine e8 (P := fun x => evT σ x = evT σ t) (fun c => ?_) (fun c2 => ?_)
  . have h00 := h0.k0 omG
    have f0 := nB h0.ok c
    have kw := d8 h0.ok
    show evT σ (oT 19 t.w (t.n + (k0 t).n) [k0 (k0 t)]) = _
    rw [eo, dF ho, dF (t := k0 t) c, cut_cut h00.wd f0.1 kw.1 omG f.1 tw.1 omG]
  refine e8 (P := fun x => evT σ x = evT σ t) (fun c => ?_) (fun c3 => ?_)
  . have h00 := h0.k0 omG
    have h01 := h0.k1 omG
    have f0 := mJ h0.ok c.1
    have kw := d8 h0.ok
    show evT σ (oT 19 t.w t.n [k1 (k0 t)]) = _
    rw [eo, dF ho, ev_j (t := k0 t) c.1, <- f0, cut_low h00.wd h01.wd omG f.1 tw.1 c.2]
  refine e8 (P := fun x => evT σ x = evT σ t) (fun c => ?_) (fun c4 => ?_)
  . have h00 := h0.k0 omG
    have h01 := h0.k1 omG
    have f0 := mJ h0.ok c.1
    have kw := d8 h0.ok
    show evT σ (oT 19 t.w (t.n - (k1 (k0 t)).w) [k0 (k0 t)]) = _
    rw [eo, dF ho, ev_j (t := k0 t) c.1, <- f0, qmu h00.wd h01.wd omG c.2 tw.1 omG]
  refine e8 (P := fun x => evT σ x = evT σ t) (fun c => ?_) (fun _ => rfl)
  . have h00 := h0.k0 omG
    have f0 := nJ h0.ok c.1
    have kw := d8 h0.ok
    show evT σ (oT 19 t.w t.n [k0 (k0 t)]) = _
    rw [eo, dF ho, qJ (t := k0 t) c.1, cut_wid _ h00.wd f0 kw.2 f.1 tw.1 c.2]
theorem redW_ev (h : GT σ t) (ho : t.op = 20 \/ t.op = 21) : evT σ (tF t).1 = evT σ t := by
  have h0 := h.k0 omG
  have f := nJ h.ok ho
  have w0 := h0.wd
  have tw := d8 h.ok
  unfold tF
  refine e8 (P := fun x => evT σ x = evT σ t) (fun c => ?_) (fun c1 => ?_)
  . rw [qJ ho, c]
    exact (qg2 w0 _).symm
  refine e8 (P := fun x => evT σ x = evT σ t) (fun c => ?_) (fun _ => rfl)
  . have h00 := h0.k0 omG
    have f0 := nJ h0.ok omG
    show evT σ (oT t.op t.w 0 [k0 (k0 t)]) = _
    have eo : evT σ (oT t.op t.w 0 [k0 (k0 t)]) = d9 (k0 (k0 t)).w (evT σ (k0 (k0 t))) t.w (t.op == 21) := qJ (t := oT t.op t.w 0 [k0 (k0 t)]) ho
    rw [eo, qJ ho, qJ (t := k0 t) omG, c, wid_wid _ h00.wd f0 f tw.2]
theorem redJ_ev (h : GT σ t) (ho : t.op = 18) : evT σ (uF t).1 = evT σ t := by
  have h0 := h.k0 omG
  have h1 := h.k1 omG
  have f := mJ h.ok ho
  have w0 := d8 h0.ok
  have w1 := d8 h1.ok
  unfold uF
  refine e8 (P := fun x => evT σ x = evT σ t) (fun c => ?_) (fun _ => rfl)
  have e := xL _ _ c.2.2.2
  have h10 := h1.k0 omG
  have f0 := nB h0.ok c.1
  have f1 := nB h1.ok c.2.1
  show evT σ (oT 19 t.w (k1 t).n [k0 (k1 t)]) = _
  have eo : evT σ (oT 19 t.w (k1 t).n [k0 (k1 t)]) = v8 (k0 (k1 t)).w (evT σ (k0 (k1 t))) (k1 t).n t.w := dF (t := oT 19 t.w (k1 t).n [k0 (k1 t)]) rfl
  rw [e] at f0
  rw [eo, ev_j ho, dF (t := k0 t) c.1, dF (t := k1 t) c.2.1, e, c.2.2.1, qkm h10.wd f1.1 w1.1 w0.1 omG, f]
theorem redB_ev (h : GT σ t) (ho : 3 <= t.op /\ t.op <= 16) : evT σ (x5 t).1 = evT σ t := by
  have h0 := h.k0 omG
  have h1 := h.k1 omG
  have fb := fit_b h.ok
  have fr := fI h.ok
  have ew : (k1 t).w = (k0 t).w := by omega
  have w0 := h0.wd
  have w1 := h1.wd
  rw [ew] at w1
  have q0 := p4 w0
  have q1 := p4 w1
  have m0 := gJ w0
  have m1 := gJ w1
  have onew : ∀ n : Int, (k0 t).op = 0 -> (k0 t).n = n -> wordP (k0 t).w n = true := by
    intro n c e; rw [<- e]; exact const_w h0.ok c
  unfold x5
  refine e8 (P := fun x => evT σ x = evT σ t) (fun c => ?_) (fun c1 => ?_)
  . show evT σ (oT t.op t.w 0 [k1 t, k0 t]) = _
    have eo : evT σ (oT t.op t.w 0 [k1 t, k0 t]) = r3 t.op (k1 t).w (evT σ (k1 t)) (evT σ (k0 t)) := vB (t := oT t.op t.w 0 [k1 t, k0 t]) ho
    rw [eo, vB ho, ew, swap_b c.1 w1 w0]
  clear c1
  refine e8 (P := fun x => evT σ x = evT σ t) (fun c => ?_) (fun c1 => ?_)
  . have en : evT σ (k0 t) = (k0 t).n := pA c.1
    show evT σ (k1 t) = _
    rw [vB ho, en]
    rcases c.2 with c | c | c | c | c | c
    . rw [c.1, c.2, b3 (onew 0 ‹_ /\ _›.1 c.2) w1, Int.zero_add, m1]
    . rw [c.1, c.2, b5 (onew 1 ‹_ /\ _›.1 c.2) w1, Int.one_mul, m1]
    . rw [c.1, c.2, qnj w1 (onew _ ‹_ /\ _›.1 c.2)]
    . rw [c.1, c.2, b9 (onew 0 ‹_ /\ _›.1 c.2) w1]
      show _ = ((0 ||| (evT σ (k1 t)).toNat : Nat) : Int)
      rw [Nat.zero_or, back w1]
    . rw [c.1, c.2, b10 (onew 0 ‹_ /\ _›.1 c.2) w1]
      show _ = ((0 ^^^ (evT σ (k1 t)).toNat : Nat) : Int)
      rw [Nat.zero_xor, back w1]
    . have o1 := onew 1 ‹_ /\ _›.1 c.2.2
      rw [c.1, c.2.2, b14 o1 w1]
      rw [c.2.1] at w1
      rcases wO w1 with z | z <;> (rw [z]; rfl)
  clear c1
  refine e8 (P := fun x => evT σ x = evT σ t) (fun c => ?_) (fun c1 => ?_)
  . have en : evT σ (k0 t) = (k0 t).n := pA c.1
    show evT σ (cT t.w 0) = _
    rw [eF, vB ho, en]
    rcases c.2 with c | c
    . rw [c.1, c.2, b5 (onew 0 ‹_ /\ _›.1 c.2) w1, Int.zero_mul, Int.zero_emod]
    . rw [c.1, c.2, b8 (onew 0 ‹_ /\ _›.1 c.2) w1]
      show _ = ((0 &&& (evT σ (k1 t)).toNat : Nat) : Int)
      rw [Nat.zero_and]; rfl
  clear c1
  refine e8 (P := fun x => evT σ x = evT σ t) (fun c => ?_) (fun c1 => ?_)
  . have en : evT σ (k0 t) = (k0 t).n := pA c.1
    show evT σ (cT t.w (onW (k0 t).w)) = _
    rw [eF, vB ho, en, c.2.1, c.2.2, or_ones w1 (onew _ c.1 c.2.2)]
  clear c1
  refine e8 (P := fun x => evT σ x = evT σ t) (fun c => ?_) (fun c1 => ?_)
  . have en : evT σ (k0 t) = (k0 t).n := pA c.1
    show evT σ (oT 1 t.w 0 [k1 t]) = _
    have eo : evT σ (oT 1 t.w 0 [k1 t]) = p7 1 (k1 t).w (evT σ (k1 t)) := iI (t := oT 1 t.w 0 [k1 t]) (.inl rfl)
    rw [eo, vB ho, en, ew]
    rcases c.2 with c | c
    . rw [c.1, c.2, qgz w1 (onew _ ‹_ /\ _›.1 c.2)]
    . have o1 := onew 0 ‹_ /\ _›.1 c.2.2
      rw [c.1, c.2.2, b14 o1 w1, u1 w1]
      rw [c.2.1] at w1 ⊢
      rcases wO w1 with z | z <;> (rw [z]; rfl)
  clear c1
  refine e8 (P := fun x => evT σ x = evT σ t) (fun c => ?_) (fun c1 => ?_)
  . have en : evT σ (k1 t) = 0 := (pA c.1).trans c.2.1
    show evT σ (k0 t) = _
    rw [vB ho, en]
    rw [en] at w1
    rcases c.2.2 with c | c
    . rw [c, b4 w0 w1, Int.sub_zero, m0]
    . rw [sh0 c w0 w1]
  clear c1
  refine e8 (P := fun x => evT σ x = evT σ t) (fun c => ?_) (fun c1 => ?_)
  . have en : evT σ (k1 t) = 0 := (pA c.1).trans c.2.1
    show evT σ (cT 1 0) = _
    rw [eF, vB ho, en]
    rw [en] at w1
    rw [c.2.2, b15 w0 w1, decide_eq_false omG]; rfl
  clear c1
  refine e8 (P := fun x => evT σ x = evT σ t) (fun c => ?_) (fun c1 => ?_)
  . have e := xL _ _ c.1
    show evT σ (k0 t) = _
    rw [vB ho, <- e]
    rcases c.2 with c | c
    . rw [c, b8 w0 w0, Nat.and_self, back w0]
    . rw [c, b9 w0 w0, Nat.or_self, back w0]
  clear c1
  refine e8 (P := fun x => evT σ x = evT σ t) (fun c => ?_) (fun c1 => ?_)
  . have e := xL _ _ c.1
    show evT σ (cT t.w 0) = _
    rw [eF, vB ho, <- e]
    rcases c.2 with c | c | c | c
    . rw [c, b4 w0 w0, Int.sub_self, Int.zero_emod]
    . rw [c, b10 w0 w0, Nat.xor_self]; rfl
    . rw [c, b15 w0 w0, decide_eq_false omG]; rfl
    . rw [c, b16 w0 w0, decide_eq_false omG]; rfl
  clear c1
  refine e8 (P := fun x => evT σ x = evT σ t) (fun c => ?_) (fun c1 => ?_)
  . have e := xL _ _ c.1
    show evT σ (cT 1 1) = _
    rw [eF, vB ho, <- e, c.2, b14 w0 w0, beq_self_eq_true]; rfl
  clear c1
  refine e8 (P := fun x => evT σ x = evT σ t) (fun c => ?_) (fun _ => rfl)
  . have hs := c.1.1
    have h13 : 3 <= t.op /\ t.op <= 13 := by have := c.1.2; unfold j3 at hs; omega
    have f := fit_b h.ok h13
    have g := fit_b h1.ok omG
    have h10 := h1.k0 omG
    have h11 := h1.k1 omG
    have x0 := h10.wd
    have x1 := h11.wd
    rw [g.1, ew] at x0
    rw [g.2, ew] at x1
    show evT σ (oT t.op t.w 0 [cT t.w (r3 t.op t.w (k0 t).n (k0 (k1 t)).n), k1 (k1 t)]) = _
    have eo : evT σ (oT t.op t.w 0 [cT t.w (r3 t.op t.w (k0 t).n (k0 (k1 t)).n), k1 (k1 t)]) = r3 t.op t.w (evT σ (cT t.w (r3 t.op t.w (k0 t).n (k0 (k1 t)).n))) (evT σ (k1 (k1 t))) := vB (t := oT t.op t.w 0 [cT t.w (r3 t.op t.w (k0 t).n (k0 (k1 t)).n), k1 (k1 t)]) ho
    rw [eo, eF, vB ho, vB (t := k1 t) omG, c.2.2.1, <- pA (σ := σ) c.2.1, <- pA (σ := σ) c.2.2.2, g.1, ew, f.1]
    rw [f.1] at w0 x0 x1
    exact assoc_b hs c.1.2 w0 x0 x1
theorem qbd (h : GT σ t) (ho : 1 <= t.op /\ t.op <= 21) : evT σ (u5 t).1 = evT σ t := by
  unfold u5
  refine e8 (P := fun x => evT σ x = evT σ t) (fun c => redU_ev h c) (fun c1 => ?_)
  refine e8 (P := fun x => evT σ x = evT σ t) (fun c => redI_ev h c) (fun c2 => ?_)
  refine e8 (P := fun x => evT σ x = evT σ t) (fun c => redC_ev h c) (fun c3 => ?_)
  refine e8 (P := fun x => evT σ x = evT σ t) (fun c => redW_ev h c) (fun c4 => ?_)
  refine e8 (P := fun x => evT σ x = evT σ t) (fun c => redJ_ev h c) (fun c5 => ?_)
  exact redB_ev h omG
theorem qbs : ∀ {l : List V.Term}, y4 l = true -> nums l = w5 σ l
  | [], _ => by rw [w5]; rfl
  | a :: l, h => by
    simp only [y4, List.all_cons, Bool.and_eq_true, decide_eq_true_eq] at h
    rw [w5, pA h.1, <- qbs (l := l) h.2]; rfl
end
theorem qce {σ : ByteArray -> Int} : ∀ (f : Nat) (t : V.Term), GT σ t -> evT σ (bA f t) = evT σ t
  | 0, t, _ => rfl
  | f + 1, t, h => by
    rw [bA]
    by_cases c1 : t.kids.length = 0
    . rw [if_pos c1]
    rw [if_neg c1]
    have ho : 1 <= t.op /\ t.op <= 21 := rH h.ok (fun e => c1 (by rw [e]; rfl))
    by_cases c2 : y4 t.kids = true
    . rw [if_pos c2, eF, wB, if_neg omG, if_neg omG, qbs c2]
    rw [if_neg c2]
    by_cases c3 : (u5 t).2 = true
    . rw [if_pos c3]
      have h1 := m9 (x := (u5 t).1) h.ok ho (Prod.ext rfl c3)
      rw [qce f _ ⟨h1.1, fun v hv => h.gv v (dU omG hv)⟩, qbd h ho]
    . rw [if_neg c3, qbd h ho]
theorem mkT_ev {σ : ByteArray -> Int} {t : V.Term} (h : okT t = true) (hg : v7 σ t) : evT σ (p3 t) = evT σ t := qce _ t ⟨h, hg⟩
def x6 : List V.Val -> ByteArray -> Int
  | [], _ => -1
  | x :: l, nm => if x.name = nm then 0 else if x6 l nm < 0 then -1 else x6 l nm + 1
abbrev vAt (l : List V.Val) (i : Nat) : V.Val := l.getD i K.vals.dflt
structure FindI (l : List V.Val) (nm : ByteArray) (i : Nat) : Prop where
  hi : i <= l.length
  eq : x6 l nm = if x6 (l.drop i) nm < 0 then -1 else i + x6 (l.drop i) nm
theorem rW : ∀ (l : List V.Val) (nm : ByteArray), -1 <= x6 l nm /\ x6 l nm < l.length
  | [], _ => ⟨by rw [x6]; decide, by rw [x6]; decide⟩
  | x :: l, nm => by
    have := rW l nm
    rw [x6, List.length_cons]
    split
    . omega
    . split <;> omega
section
variable {l : List V.Val} {nm : ByteArray} {i : Nat}
theorem find_0 : FindI l nm 0 := ⟨Nat.zero_le _, by have := rW l nm; rw [List.drop_zero]; split <;> omega⟩
theorem vdrop (h : (i : Int) < l.length) : l.drop i = vAt l i :: l.drop (i + 1) := by
  have hi : i < l.length := by omega
  rw [List.drop_eq_getElem_cons hi]
  congr 1
  rw [vAt, List.getD_eq_getElem?_getD, List.getElem?_eq_getElem hi]; rfl
theorem qmk (h : FindI l nm i) (hl : (i : Int) < l.length) (e : (vAt l i).name = nm) : x6 l nm = i := by
  rw [h.eq, vdrop hl, x6, if_pos e, if_neg omG]; omega
theorem find_s (h : FindI l nm i) (hl : (i : Int) < l.length) (e : ¬ (vAt l i).name = nm) : FindI l nm (i + 1) := by
  refine ⟨by omega, ?_⟩
  have q := h.eq
  rw [vdrop hl, x6, if_neg e] at q
  rw [q]
  split
  . rw [if_pos (by decide)]
  . rw [if_neg omG]; omega
theorem find_e (h : FindI l nm i) (hl : ¬ (i : Int) < l.length) : x6 l nm = -1 := by
  rw [h.eq, List.drop_eq_nil_of_le omG, x6]; rfl
end
structure VOk (L : List V.Val) (σ : ByteArray -> Int) (t : V.Term) : Prop where
  h : ∀ v, v ∈ varsT t -> 0 <= x6 L v.1 /\ (vAt L (x6 L v.1).toNat).w = v.2 /\ (vAt L (x6 L v.1).toNat).n = σ v.1
theorem VOk.kid {L : List V.Val} {σ : ByteArray -> Int} {t : V.Term} (h : VOk L σ t) (i : Nat) : VOk L σ (kAt t.kids i) := ⟨fun v hv => h.h v (nN hv)⟩
theorem VOk.var {L : List V.Val} {σ : ByteArray -> Int} {t : V.Term} (h : VOk L σ t) (ho : t.op = 22) : 0 <= x6 L t.name /\ (vAt L (x6 L t.name).toNat).w = t.w /\ (vAt L (x6 L t.name).toNat).n = σ t.name :=
  h.h (t.name, t.w) (by rw [zS, if_pos ho]; exact List.mem_cons_self ..)
def j7 (w : Int) (l : List Int) (k : Nat) : List V.Val := (List.range k).map fun (j : Nat) => ⟨i4 (j : Int), w, l.getD j 0⟩
theorem valsTo_s {w : Int} {l : List Int} {k : Nat} : j7 w l (k + 1) = j7 w l k ++ [⟨i4 k, w, l.getD k 0⟩] := by
  unfold j7
  rw [List.range_succ, List.map_append]; rfl
theorem pG {w : Int} {l : List Int} {k : Nat} : (j7 w l k).length = k := by
  unfold j7; rw [List.length_map, List.length_range]
theorem find_in {w : Int} {l : List Int} {k n : Nat} (hk : k < n) (hn : n <= 3) : x6 (j7 w l n) (i4 k) = k /\ vAt (j7 w l n) k = ⟨i4 k, w, l.getD k 0⟩ := by
  have : (n = 1 /\ k = 0) \/ (n = 2 /\ k = 0) \/ (n = 2 /\ k = 1) \/ (n = 3 /\ k = 0) \/ (n = 3 /\ k = 1) \/ (n = 3 /\ k = 2) := by omega
  have e01 : ¬ i4 0 = i4 1 := by decide
  have e02 : ¬ i4 0 = i4 2 := by decide
  have e12 : ¬ i4 1 = i4 2 := by decide
  rcases this with ⟨rfl, rfl⟩ | ⟨rfl, rfl⟩ | ⟨rfl, rfl⟩ | ⟨rfl, rfl⟩ | ⟨rfl, rfl⟩ | ⟨rfl, rfl⟩
  all_goals refine ⟨?_, rfl⟩
  . show x6 [⟨i4 0, w, l.getD 0 0⟩] (i4 0) = 0
    rw [x6, if_pos rfl]
  . show x6 [⟨i4 0, w, l.getD 0 0⟩, ⟨i4 1, w, l.getD 1 0⟩] (i4 0) = 0
    rw [x6, if_pos rfl]
  . show x6 [⟨i4 0, w, l.getD 0 0⟩, ⟨i4 1, w, l.getD 1 0⟩] (i4 1) = 1
    rw [x6, if_neg e01, x6, if_pos rfl]; rfl
  . show x6 [⟨i4 0, w, l.getD 0 0⟩, ⟨i4 1, w, l.getD 1 0⟩, ⟨i4 2, w, l.getD 2 0⟩] (i4 0) = 0
    rw [x6, if_pos rfl]
  . show x6 [⟨i4 0, w, l.getD 0 0⟩, ⟨i4 1, w, l.getD 1 0⟩, ⟨i4 2, w, l.getD 2 0⟩] (i4 1) = 1
    rw [x6, if_neg e01, x6, if_pos rfl]; rfl
  . show x6 [⟨i4 0, w, l.getD 0 0⟩, ⟨i4 1, w, l.getD 1 0⟩, ⟨i4 2, w, l.getD 2 0⟩] (i4 2) = 2
    rw [x6, if_neg e02, x6, if_neg e12, x6, if_pos rfl]; rfl
theorem mB {p : V.Prog} {l : List Int} (h : s8 p l = true) : f4 p = true /\ InOk p l := by
  unfold s8 at h
  simp only [Bool.and_eq_true, beq_iff_eq, List.all_eq_true] at h
  exact ⟨h.1, ⟨h.2.2, h.2.1⟩⟩
theorem Qt.vok {p : V.Prog} {w : Int} {t : V.Term} {l : List Int} (h : Qt p w t) (hp : f4 p = true) (hl : InOk p l) : VOk (j7 p.w l l.length) (r0 l) t := by
  refine ⟨fun v hv => ?_⟩
  obtain ⟨e, k, h0, h1, e2⟩ := h.vs v hv
  have hm := s6 hp
  have hn := hl.len
  obtain ⟨n, rfl⟩ := Int.eq_ofNat_of_zero_le h0
  have hk : n < l.length := by omega
  obtain ⟨q1, q2⟩ := find_in (w := p.w) (l := l) hk omG
  rw [e2, q1, Int.toNat_natCast, q2, lT h0 omG]
  exact ⟨by omega, e.symm, rfl⟩
noncomputable def gA (l : List Int) : Nat -> List (ByteArray × Int)
  | 0 => []
  | k + 1 => z8 (gA l k) (i4 k) (l.getD k 0)
theorem xC (l : List Int) (s : ByteArray) : mget (gA l 1) s = if i4 0 = s then some (l.getD 0 0) else none := by
  show mget (z8 [] (i4 0) (l.getD 0 0)) s = _
  rw [fN rfl]; rfl
theorem zD (l : List Int) (s : ByteArray) : mget (gA l 2) s = if i4 1 = s then some (l.getD 1 0) else mget (gA l 1) s := by
  show mget (z8 (gA l 1) (i4 1) (l.getD 1 0)) s = _
  rw [fN]
  rw [xC, if_neg (by decide)]
theorem rJ (l : List Int) (s : ByteArray) : mget (gA l 3) s = if i4 2 = s then some (l.getD 2 0) else mget (gA l 2) s := by
  show mget (z8 (gA l 2) (i4 2) (l.getD 2 0)) s = _
  rw [fN]
  rw [zD, if_neg (by decide), xC, if_neg (by decide)]
def sM (m : List (ByteArray × Int)) (s : ByteArray) : Int := (mget m s).getD 0
theorem xW {l : List Int} (h : l.length <= 3) : sM (gA l l.length) = r0 l := by
  funext s
  have g0 : ∀ k : Nat, l.length <= k -> l.getD k 0 = 0 := by
    intro k hk
    rw [List.getD_eq_getElem?_getD, List.getElem?_eq_none hk]; rfl
  have e01 : ¬ i4 0 = i4 1 := by decide
  have e02 : ¬ i4 0 = i4 2 := by decide
  have e12 : ¬ i4 1 = i4 2 := by decide
  have hn : l.length = 0 \/ l.length = 1 \/ l.length = 2 \/ l.length = 3 := by omega
  unfold sM r0
  by_cases c0 : s = i4 0
  . subst c0
    rw [if_pos rfl]
    rcases hn with n | n | n | n <;> rw [n]
    . exact (g0 0 omG).symm
    . rw [xC, if_pos rfl]; rfl
    . rw [zD, if_neg (fun e => e01 e.symm), xC, if_pos rfl]; rfl
    . rw [rJ, if_neg (fun e => e02 e.symm), zD, if_neg (fun e => e01 e.symm), xC, if_pos rfl]; rfl
  rw [if_neg c0]
  by_cases c1 : s = i4 1
  . subst c1
    rw [if_pos rfl]
    rcases hn with n | n | n | n <;> rw [n]
    . exact (g0 1 omG).symm
    . rw [xC, if_neg e01]; exact (g0 1 omG).symm
    . rw [zD, if_pos rfl]; rfl
    . rw [rJ, if_neg (fun e => e12 e.symm), zD, if_pos rfl]; rfl
  rw [if_neg c1]
  by_cases c2 : s = i4 2
  . subst c2
    rw [if_pos rfl]
    rcases hn with n | n | n | n <;> rw [n]
    . exact (g0 2 omG).symm
    . rw [xC, if_neg e02]; exact (g0 2 omG).symm
    . rw [zD, if_neg e12, xC, if_neg e02]; exact (g0 2 omG).symm
    . rw [rJ, if_pos rfl]; rfl
  rw [if_neg c2]
  rcases hn with n | n | n | n <;> rw [n]
  . rfl
  . rw [xC, if_neg (fun e => c0 e.symm)]; rfl
  . rw [zD, if_neg (fun e => c1 e.symm), xC, if_neg (fun e => c0 e.symm)]; rfl
  . rw [rJ, if_neg (fun e => c2 e.symm), zD, if_neg (fun e => c1 e.symm), xC, if_neg (fun e => c0 e.symm)]; rfl
set_option maxRecDepth 100000
set_option maxHeartbeats 40000000
structure IHEv (m : List (ByteArray × Int)) (z : Bool) (t : V.Term) : Prop where
  call : ∀ (op w n : Int) (nm : ByteArray) (ks : List V.Term), okT ⟨op, w, n, nm, ks⟩ = true -> sizeT ⟨op, w, n, nm, ks⟩ < sizeT t ->
    CallsG Tryz.prog 119 [.agg [.dat (.i op), .dat (.i w), .dat (.i n), .dat (.str nm), .dat (.seq .terms ks)], .mp 0] [.mp m z] 1 (fun res B => res = .dat (.i (evT (sM m) ⟨op, w, n, nm, ks⟩)) /\ B = [.mp m z])
theorem ih_ev {m : List (ByteArray × Int)} {z : Bool} {t : V.Term} (ih : IHEv m z t) {op w n : Int} {nm : ByteArray} {ks : List V.Term} (ht : okT ⟨op, w, n, nm, ks⟩ = true) (hs : sizeT ⟨op, w, n, nm, ks⟩ < sizeT t) :
    CallsG Tryz.prog 119 [.agg [.dat (.i op), .dat (.i w), .dat (.i n), .dat (.str nm), .dat (.seq .terms ks)], .mp 0] [.mp m z] 1 (fun res B => res = .dat (.i (evT (sM m) ⟨op, w, n, nm, ks⟩)) /\ B = [.mp m z]) := ih.call op w n nm ks ht hs
theorem sk_0 {t : V.Term} (ht : okT t = true) (ho : 1 <= t.op /\ t.op <= 21) : sizeT (k0 t) < sizeT t := by
  by_cases c : t.op = 17
  . have := sz_i ht c; omega
  . by_cases c2 : (3 <= t.op /\ t.op <= 16) \/ t.op = 18
    . have := wI ht c2; omega
    . have := qG ht omG; omega
theorem sk_1 {t : V.Term} (ht : okT t = true) (ho : 3 <= t.op /\ t.op <= 18) : sizeT (k1 t) < sizeT t := by
  by_cases c : t.op = 17
  . have := sz_i ht c; omega
  . have := wI ht omG; omega
theorem sk_2 {t : V.Term} (ht : okT t = true) (ho : t.op = 17) : sizeT (k2 t) < sizeT t := by
  have := sz_i ht ho; omega
section
variable {σ : ByteArray -> Int} {t : V.Term}
theorem ei_v (ho : t.op = 22) : σ t.name = evT σ t := by rw [wB, if_neg omG, if_pos ho]
theorem ei_1 (ho : t.op = 17) (h : evT σ (k0 t) = 1) : evT σ (k1 t) = evT σ t := by rw [fG ho, if_pos h]
theorem ei_2 (ho : t.op = 17) (h : ¬ evT σ (k0 t) = 1) : evT σ (k2 t) = evT σ t := by rw [fG ho, if_neg h]
end
theorem i_ev0 (t : V.Term) (m : List (ByteArray × Int)) (z : Bool) (ih : IHEv m z t) (ht : okT t = true) : CallsG Tryz.prog 119 [.agg [.dat (.i t.op), .dat (.i t.w), .dat (.i t.n), .dat (.str t.name), .dat (.seq .terms t.kids)], .mp 0] [.mp m z] 1 (fun res B => res = .dat (.i (evT (sM m) t)) /\ B = [.mp m z]) := by
  refine oG Tryz.func119 ⟨?_⟩
  repeat' (first | ((with_reducible refine fun (K1 : KT) hK => ?_); refine o5 ⟨?_⟩) | ((with_reducible show K1 _ _); subst hK; conv => whnf) | refine st0 ⟨?_⟩ | ((with_reducible refine SplS.mk (fun h => ?_) (fun h => ?_)) <;> first | exact m4 | (subst h; conv => whnf) | (conv => whnf)) | refine s1 ⟨?_⟩ ⟨?_⟩ | refine gS (ih_ev (ih := by assumption) (ht := ?_) (hs := ?_) ..) ⟨?_⟩ | refine vP (qd1 ..) ⟨?_⟩ | refine vP (qdz (hl := ?_) ..) ⟨?_⟩ | refine vP (qdr ..) ⟨?_⟩ | refine vP (qdu ..) ⟨?_⟩ | refine vP (iR ..) ⟨?_⟩ | fail)
  all_goals repeat clear hK K1
  all_goals (try simp only [V.Term.eta] at *)
  all_goals (have l1 := lD ht; have l2 := jC ht; have l3 := tB ht; have lo := gQ ht; first | omega | exact ok0 ht omG | exact r4 ht omG | exact ok2 ht omG | exact sk_0 ht omG | exact sk_1 ht omG | exact sk_2 ht omG | (have f := nB ht omG; have q := d8 (ok0 ht omG); have q2 := d8 ht; omega) | exact eH (pA (σ := sM m) (t := t) asmR).symm | exact eH (ei_v (σ := sM m) (t := t) asmR) | exact eH (ei_1 (σ := sM m) (t := t) asmR (by assumption)) | exact eH (ei_2 (σ := sM m) (t := t) asmR (by assumption)) | exact eH (iI (σ := sM m) (t := t) omG).symm | exact eH (vB (σ := sM m) (t := t) omG).symm | exact eH (ev_j (σ := sM m) (t := t) omG).symm | exact eH (dF (σ := sM m) (t := t) omG).symm | exact eH (qJ (σ := sM m) (t := t) omG).symm | skip)
theorem i_evM (op w n : Int) (nm : ByteArray) (ks : List V.Term) (m : List (ByteArray × Int)) (z : Bool) (ht : okT ⟨op, w, n, nm, ks⟩ = true) :
    CallsG Tryz.prog 119 [.agg [.dat (.i op), .dat (.i w), .dat (.i n), .dat (.str nm), .dat (.seq .terms ks)], .mp 0] [.mp m z] 1 (fun res B => res = .dat (.i (evT (sM m) ⟨op, w, n, nm, ks⟩)) /\ B = [.mp m z]) := by
  have key : ∀ (k : Nat) (t : V.Term), sizeT t < k -> okT t = true -> CallsG Tryz.prog 119 [.agg [.dat (.i t.op), .dat (.i t.w), .dat (.i t.n), .dat (.str t.name), .dat (.seq .terms t.kids)], .mp 0] [.mp m z] 1 (fun res B => res = .dat (.i (evT (sM m) t)) /\ B = [.mp m z]) := by
    intro k
    induction k with
    | zero => intro t h; omega
    | succ k ih =>
      intro t h ht
      exact i_ev0 t m z ⟨fun op w n nm ks ht' hs => ih ⟨op, w, n, nm, ks⟩ omG ht'⟩ ht
  exact key _ ⟨op, w, n, nm, ks⟩ (Nat.lt_succ_self _) ht
end Vg
