/- Words in plain numbers: what the operations on words compute. No condition. -/
import Derived.Test.YtfhkodimclmcdaaGreatDoorEvQ
import Derived.Test.YtfhkodimclmcdaaGreatDoorPfQ
import Derived.Test.YtfhkodimclmcdaaGreatDoorSess
import Derived.Test.YtfhkodimclmcdaaGreatDoorTermS
import Derived.Test.YtfhkodimclmcdaaGreatDoorTermRB
namespace Vg
open Go Go.Proofs
theorem jG (k : Nat) : ((2 ^ k : Nat) : Int) = (2 : Int) ^ k := by push_cast;rfl
theorem xU {k : Nat} (h : k <= 16) : (2 : Int) ^ k <= 65536 := by
  have h1 : 2 ^ k <= 2 ^ 16 := Nat.pow_le_pow_right (by decide) h
  have h2 := jG k
  have h3 : (2 : Nat) ^ 16 = 65536 := by decide
  omega
theorem qkq (n : Int) : (BitVec.ofInt IntKind.i64.bits n).toNat = (n % 18446744073709551616).toNat := by
  show (BitVec.ofInt 64 n).toNat = _
  rw [BitVec.toNat_ofInt];rfl
theorem oH {w n : Int} (h : inP w 1 16 = true) : u9 w n = n % 2 ^ w.toNat := by
  have F := k6.1 h
  have hk : w.toNat <= 16 := by omega
  have hp : (0 : Int) < 2 ^ w.toNat := Int.pow_pos (by decide)
  unfold u9
  rw [if_pos h]
  have e1 : (BitVec.ofInt IntKind.i64.bits (2 ^ w.toNat - 1)).toNat = 2 ^ w.toNat - 1 := by
    have q := xU hk
    rw [aL omG omG]
    have := yU w.toNat
    omega
  have e2 : (BitVec.ofInt IntKind.i64.bits n &&& BitVec.ofInt IntKind.i64.bits (2 ^ w.toNat - 1)).toNat = (n % 18446744073709551616).toNat % 2 ^ w.toNat := by
    rw [BitVec.toNat_and,e1,qkq,Nat.and_two_pow_sub_one_eq_mod]
  rw [e2]
  have h64 : (2 : Int) ^ w.toNat ∣ 18446744073709551616 := by
    have e : (18446744073709551616 : Int) = 2 ^ w.toNat * 2 ^ (64 - w.toNat) := by
      rw [<- Int.pow_add,show w.toNat + (64 - w.toNat) = 64 by omega];rfl
    rw [e]
    exact Int.dvd_mul_right _ _
  have e3 : (((n % 18446744073709551616).toNat % 2 ^ w.toNat : Nat) : Int) = n % 2 ^ w.toNat := by
    have hn : 0 <= n % 18446744073709551616 := Int.emod_nonneg _ (by decide)
    rw [Int.natCast_emod,Int.toNat_of_nonneg hn,jG,Int.emod_emod_of_dvd _ h64]
  rw [e3]
  have h0 : 0 <= n % 2 ^ w.toNat := Int.emod_nonneg _ omG
  have h1 : n % 2 ^ w.toNat < 2 ^ w.toNat := Int.emod_lt_of_pos _ hp
  have h2 := xU hk
  exact j3 omG omG
theorem yK {w : Int} (h : inP w 1 16 = true) : (2 : Int) ^ w.toNat <= 65536 := by
  have F := k6.1 h
  exact xU omG
theorem tQ (k : Nat) : (0 : Int) < 2 ^ k := Int.pow_pos (by decide)
theorem nJ {w a : Int} (h : wordP w a = true) : a % 2 ^ w.toNat = a := by
  have q := u4 h
  exact Int.emod_eq_of_lt q.2.1 q.2.2
section
variable {w a b c : Int}
theorem aG (ha : wordP w a = true) (hb : wordP w b = true) : (wordP w a && wordP w b) = true := by rw [ha,hb];rfl
theorem b3 (ha : wordP w a = true) (hb : wordP w b = true) : m4 3 w a b = (a + b) % 2 ^ w.toNat := by
  have q1 := u4 ha;have q2 := u4 hb;have q3 := yK q1.1
  unfold m4
  rw [if_pos (aG ha hb),if_pos rfl,oH q1.1,j3 omG omG]
theorem b4 (ha : wordP w a = true) (hb : wordP w b = true) : m4 4 w a b = (a - b) % 2 ^ w.toNat := by
  have q1 := u4 ha;have q2 := u4 hb;have q3 := yK q1.1
  unfold m4
  rw [if_pos (aG ha hb),if_neg (by decide),if_pos rfl,oH q1.1,j3 omG omG]
theorem b5 (ha : wordP w a = true) (hb : wordP w b = true) : m4 5 w a b = (a * b) % 2 ^ w.toNat := by
  have q1 := u4 ha;have q2 := u4 hb;have q3 := yK q1.1
  have m1 : 0 <= a * b := Int.mul_nonneg q1.2.1 q2.2.1
  have m2 : a * b <= 65536 * 65536 := Int.mul_le_mul omG omG q2.2.1 (by decide)
  unfold m4
  rw [if_pos (aG ha hb),if_neg (by decide),if_neg (by decide),if_pos rfl,oH q1.1,j3 omG omG]
theorem hY (ha : wordP w a = true) (hb : wordP w b = true) {f : Nat -> Nat -> Nat} (hf : ∀ x y n,x < 2 ^ n -> y < 2 ^ n -> f x y < 2 ^ n) : IntKind.i64.wrap ((f (BitVec.ofInt IntKind.i64.bits a).toNat (BitVec.ofInt IntKind.i64.bits b).toNat : Nat) : Int) = (f a.toNat b.toNat : Nat) := by
  have q1 := u4 ha;have q2 := u4 hb;have q3 := yK q1.1
  rw [aL omG omG,aL omG omG]
  have := hf a.toNat b.toNat 16 omG omG
  exact j3 omG omG
theorem b8 (ha : wordP w a = true) (hb : wordP w b = true) : m4 8 w a b = ((a.toNat &&& b.toNat : Nat) : Int) := by
  unfold m4
  rw [if_pos (aG ha hb),if_neg (by decide),if_neg (by decide),if_neg (by decide),if_neg (by decide),if_neg (by decide),if_pos rfl,BitVec.toNat_and]
  exact hY ha hb (f := fun x y=>x &&& y) (fun x y n hx _=>Nat.lt_of_le_of_lt Nat.and_le_left hx)
theorem b9 (ha : wordP w a = true) (hb : wordP w b = true) : m4 9 w a b = ((a.toNat ||| b.toNat : Nat) : Int) := by
  unfold m4
  rw [if_pos (aG ha hb),if_neg (by decide),if_neg (by decide),if_neg (by decide),if_neg (by decide),if_neg (by decide),if_neg (by decide),if_pos rfl,BitVec.toNat_or]
  exact hY ha hb (f := fun x y=>x ||| y) (fun x y n hx hy=>Nat.or_lt_two_pow hx hy)
theorem b10 (ha : wordP w a = true) (hb : wordP w b = true) : m4 10 w a b = ((a.toNat ^^^ b.toNat : Nat) : Int) := by
  unfold m4
  rw [if_pos (aG ha hb),if_neg (by decide),if_neg (by decide),if_neg (by decide),if_neg (by decide),if_neg (by decide),if_neg (by decide),if_neg (by decide),if_pos rfl,BitVec.toNat_xor]
  exact hY ha hb (f := fun x y=>x ^^^ y) (fun x y n hx hy=>Nat.xor_lt_two_pow hx hy)
theorem b14 (ha : wordP w a = true) (hb : wordP w b = true) : m4 14 w a b = p8 (a == b) := by
  unfold m4
  rw [if_pos (aG ha hb)];rfl
theorem b15 (ha : wordP w a = true) (hb : wordP w b = true) : m4 15 w a b = p8 (decide (a < b)) := by
  unfold m4
  rw [if_pos (aG ha hb)];rfl
theorem b16 (ha : wordP w a = true) (hb : wordP w b = true) : m4 16 w a b = p8 (decide (t7 w a < t7 w b)) := by
  unfold m4
  rw [if_pos (aG ha hb)];rfl
/-! ### laws -/
theorem swap_b {op : Int} (ho : g4 op) (ha : wordP w a = true) (hb : wordP w b = true) : m4 op w a b = m4 op w b a := by
  rcases ho with rfl|rfl|rfl|rfl|rfl|rfl
  . rw [b3 ha hb,b3 hb ha,Int.add_comm]
  . rw [b5 ha hb,b5 hb ha,Int.mul_comm]
  . rw [b8 ha hb,b8 hb ha,Nat.and_comm]
  . rw [b9 ha hb,b9 hb ha,Nat.or_comm]
  . rw [b10 ha hb,b10 hb ha,Nat.xor_comm]
  . rw [b14 ha hb,b14 hb ha]
    congr 1
    by_cases c : a = b
    . subst c;rfl
    . rw [beq_eq_false_iff_ne.2 c,beq_eq_false_iff_ne.2 (fun e=>c e.symm)]
theorem lK (ha : wordP w a = true) : a.toNat < 2 ^ w.toNat := by
  have q := u4 ha
  have := jG w.toNat
  omega
theorem cV (w : Int) : (onW w).toNat = 2 ^ w.toNat - 1 := by
  have := yU w.toNat
  have := tQ w.toNat
  show ((2 : Int) ^ w.toNat - 1).toNat = _
  omega
theorem back (ha : wordP w a = true) : ((a.toNat : Nat) : Int) = a := Int.toNat_of_nonneg (u4 ha).2.1
theorem qon (ha : wordP w a = true) (hw : wordP w (onW w) = true) : m4 8 w (onW w) a = a := by
  rw [b8 hw ha,Nat.and_comm,cV,Nat.and_two_pow_sub_one_eq_mod,Nat.mod_eq_of_lt (lK ha),back ha]
theorem or_ones (ha : wordP w a = true) (hw : wordP w (onW w) = true) : m4 9 w (onW w) a = onW w := by
  have h := lK ha
  rw [b9 hw ha]
  have e : (onW w).toNat ||| a.toNat = (onW w).toNat := by
    rw [cV]
    apply Nat.eq_of_testBit_eq
    intro i
    rw [Nat.testBit_or,Nat.testBit_two_pow_sub_one]
    by_cases c : i < w.toNat
    . rw [decide_eq_true c,Bool.true_or]
    . rw [decide_eq_false c,Bool.false_or]
      exact Nat.testBit_lt_two_pow (Nat.lt_of_lt_of_le h (Nat.pow_le_pow_right (by decide) omG))
  rw [e,back hw]
theorem qhv (ha : wordP w a = true) (hw : wordP w (onW w) = true) : m4 10 w (onW w) a = r7 1 w a := by
  have h := lK ha
  have q := u4 ha
  rw [b10 hw ha]
  have e : (onW w).toNat ^^^ a.toNat = 2 ^ w.toNat - (a.toNat + 1) := by
    rw [cV]
    apply Nat.eq_of_testBit_eq
    intro i
    rw [Nat.testBit_xor,Nat.testBit_two_pow_sub_one,Nat.testBit_two_pow_sub_succ h]
    by_cases c : i < w.toNat
    . rw [decide_eq_true c,Bool.true_xor,Bool.true_and]
    . rw [decide_eq_false c,Bool.false_xor,Bool.false_and]
      exact Nat.testBit_lt_two_pow (Nat.lt_of_lt_of_le h (Nat.pow_le_pow_right (by decide) omG))
  rw [e]
  unfold r7
  rw [if_pos ha,if_pos rfl]
  have := jG w.toNat
  omega
end
/-! ### equal in order is equal -/
theorem fU {a b : Int} (h : s4 a b = 0) : a = b := by
  unfold s4 at h
  split at h
  . omega
  . split at h <;> omega
theorem scmp_0 {a b : ByteArray} (h : scmp a b = 0) : a = b := by
  unfold scmp at h
  by_cases c : a = b
  . exact c
  . split at h
    . cases h
    . split at h
      . cases h
      . next p q=>exact absurd (uK c (by simpa using p)) q
mutual
theorem mM : ∀ (a b : V.Term),cmpT a b = 0 -> a = b
  | ⟨o,w,n,nm,ks⟩,⟨o',w',n',nm',ks'⟩,h=>by
    rw [cmpT] at h
    simp only at h
    by_cases c1 : s4 o o' = 0
    . rw [if_neg (by simp [c1])] at h
      by_cases c2 : s4 w w' = 0
      . rw [if_neg (by simp [c2])] at h
        by_cases c3 : s4 n n' = 0
        . rw [if_neg (by simp [c3])] at h
          by_cases c4 : scmp nm nm' = 0
          . rw [if_neg (by simp [c4])] at h
            have e5 := qgb ks ks' h
            obtain rfl := fU c1
            obtain rfl := fU c2
            obtain rfl := fU c3
            obtain rfl := scmp_0 c4
            rw [e5]
          . rw [if_pos c4] at h;exact absurd h c4
        . rw [if_pos c3] at h;exact absurd h c3
      . rw [if_pos c2] at h;exact absurd h c2
    . rw [if_pos c1] at h;exact absurd h c1
theorem qgb : ∀ (a b : List V.Term),l9 a b = 0 -> a = b
  | [],[],_=>rfl
  | [],_ :: _,h=>by rw [l9] at h;cases h
  | _ :: _,[],h=>by rw [l9] at h;cases h
  | a :: xs,b :: ys,h=>by
    rw [l9] at h
    by_cases c : cmpT a b = 0
    . rw [if_neg (by simp [c])] at h
      rw [mM a b c,qgb xs ys h]
    . rw [if_pos c] at h;exact absurd h c
end
/-! ### cuts and joins -/
theorem wF {w a low n : Int} (ha : wordP w a = true) (h0 : 0 <= low) (h1 : 1 <= n) (h2 : n <= w - low) : v8 w a low n = ((a.toNat / 2 ^ low.toNat % 2 ^ n.toNat : Nat) : Int) := by
  have q := u4 ha
  have F := k6.1 q.1
  unfold v8
  rw [if_pos ⟨ha,h0,h1,h2⟩,oH (k6.2 ⟨h1,by omega⟩)]
  have e : min low.toNat IntKind.i64.bits = low.toNat := by
    have : IntKind.i64.bits = 64 := rfl
    omega
  rw [e,Int.fdiv_eq_ediv_of_nonneg _ (Int.le_of_lt (tQ _)),<- back ha,Int.natCast_emod,Int.natCast_ediv,jG,jG]
  rfl
theorem zX {w a low n : Int} (ha : wordP w a = true) (h0 : 0 <= low) (h1 : 1 <= n) (h2 : n <= w - low) : (v8 w a low n).toNat = a.toNat / 2 ^ low.toNat % 2 ^ n.toNat := by
  rw [wF ha h0 h1 h2];rfl
theorem pW {w a v b : Int} (ha : wordP w a = true) (hb : wordP v b = true) (hw : w + v <= 16) : gB w a v b = ((a.toNat * 2 ^ v.toNat + b.toNat : Nat) : Int) := by
  unfold gB
  rw [if_pos ⟨ha,hb,hw⟩,Int.natCast_add,Int.natCast_mul,back ha,back hb,jG]
theorem vV (x : Nat) {l n v : Nat} (h : l + n <= v) : x % 2 ^ v / 2 ^ l % 2 ^ n = x / 2 ^ l % 2 ^ n := by
  have e : 2 ^ v = 2 ^ l * 2 ^ (v - l) := by rw [<- Nat.pow_add];congr 1;omega
  rw [e,Nat.mod_mul_right_div_self,Nat.mod_mod_of_dvd]
  exact Nat.pow_dvd_pow 2 omG
theorem cut_all {w a : Int} (ha : wordP w a = true) : v8 w a 0 w = a := by
  have q := u4 ha
  have F := k6.1 q.1
  rw [wF ha (Int.le_refl 0) omG omG]
  show ((a.toNat / 2 ^ 0 % 2 ^ w.toNat : Nat) : Int) = a
  rw [Nat.pow_zero,Nat.div_one,Nat.mod_eq_of_lt (lK ha),back ha]
theorem cut_cut {w a l v m n : Int} (ha : wordP w a = true) (h0 : 0 <= l) (h1 : 1 <= v) (h2 : v <= w - l) (h3 : 0 <= m) (h4 : 1 <= n) (h5 : n <= v - m) : v8 v (v8 w a l v) m n = v8 w a (m + l) n := by
  have hc := pS ha h0 h1 h2
  rw [wF hc h3 h4 h5,zX ha h0 h1 h2,wF ha omG h4 omG,vV _ omG,Nat.div_div_eq_div_mul,<- Nat.pow_add,show l.toNat + m.toNat = (m + l).toNat by omega]
theorem cut_low {w a v b l n : Int} (ha : wordP w a = true) (hb : wordP v b = true) (hw : w + v <= 16) (h0 : 0 <= l) (h1 : 1 <= n) (h2 : l + n <= v) : v8 (w + v) (gB w a v b) l n = v8 v b l n := by
  have qa := k6.1 (u4 ha).1
  have hj := oW ha hb hw
  rw [wF hj h0 h1 omG,pW ha hb hw,wF hb h0 h1 omG]
  have e : ((a.toNat * 2 ^ v.toNat + b.toNat : Nat) : Int).toNat = a.toNat * 2 ^ v.toNat + b.toNat := rfl
  rw [e,<- vV (a.toNat * 2 ^ v.toNat + b.toNat) (show l.toNat + n.toNat <= v.toNat by omega),Nat.mul_add_mod_self_right,Nat.mod_eq_of_lt (lK hb)]
theorem qnz {w a v b l n : Int} (ha : wordP w a = true) (hb : wordP v b = true) (hw : w + v <= 16) (h0 : v <= l) (h1 : 1 <= n) (h2 : n <= w + v - l) : v8 (w + v) (gB w a v b) l n = v8 w a (l - v) n := by
  have qb := k6.1 (u4 hb).1
  have hj := oW ha hb hw
  rw [wF hj omG h1 h2,pW ha hb hw,wF ha omG h1 omG]
  have e : ((a.toNat * 2 ^ v.toNat + b.toNat : Nat) : Int).toNat = a.toNat * 2 ^ v.toNat + b.toNat := rfl
  have e2 : 2 ^ l.toNat = 2 ^ v.toNat * 2 ^ (l - v).toNat := by rw [<- Nat.pow_add];congr 1;omega
  have e3 : (a.toNat * 2 ^ v.toNat + b.toNat) / 2 ^ v.toNat = a.toNat := by
    rw [Nat.mul_comm,Nat.mul_add_div (Nat.two_pow_pos _),Nat.div_eq_of_lt (lK hb),Nat.add_zero]
  rw [e,e2,<- Nat.div_div_eq_div_mul,e3]
theorem qli {w a l v n : Int} (ha : wordP w a = true) (h0 : 0 <= l) (h1 : 1 <= v) (h2 : 1 <= n) (h3 : n <= w - (l + v)) : gB n (v8 w a (l + v) n) v (v8 w a l v) = v8 w a l (n + v) := by
  have q := k6.1 (u4 ha).1
  have c1 := pS ha (show 0 <= l + v by omega) h2 h3
  have c2 := pS ha h0 h1 omG
  rw [pW c1 c2 omG,zX ha omG h2 h3,zX ha h0 h1 omG,wF ha h0 omG omG]
  have e1 : (l + v).toNat = l.toNat + v.toNat := by omega
  have e2 : (n + v).toNat = v.toNat + n.toNat := by omega
  rw [e1,e2,Nat.pow_add,Nat.pow_add,<- Nat.div_div_eq_div_mul,Nat.mod_mul,Nat.mul_comm,Nat.add_comm]
/-! ### wider words -/
theorem yW {w : Int} (h : 1 <= w) : (2 : Int) ^ w.toNat = 2 * 2 ^ (w - 1).toNat := by
  rw [show w.toNat = (w - 1).toNat + 1 by omega,Int.pow_succ,Int.mul_comm]
theorem sg_n {w a : Int} (ha : wordP w a = true) : t7 w a = if a < 2 ^ (w - 1).toNat then a else a - 2 ^ w.toNat := by
  have q := u4 ha
  have F := k6.1 q.1
  have hp := tQ (w - 1).toNat
  have hh := yW F.1
  unfold t7
  rw [if_pos ha,Int.fdiv_eq_ediv_of_nonneg _ (Int.le_of_lt hp)]
  by_cases c : a < 2 ^ (w - 1).toNat
  . rw [if_pos c,if_pos (Int.ediv_eq_zero_of_lt q.2.1 c)]
  . rw [if_neg c,if_neg]
    intro e
    apply c
    have := Int.lt_ediv_add_one_mul_self a hp
    rw [e] at this
    omega
theorem sg_r {w a : Int} (ha : wordP w a = true) : - 2 ^ (w - 1).toNat <= t7 w a /\ t7 w a < 2 ^ (w - 1).toNat := by
  have q := u4 ha
  have F := k6.1 q.1
  have hh := yW F.1
  have hp := tQ (w - 1).toNat
  rw [sg_n ha]
  split <;> omega
theorem sg_m {w a : Int} (ha : wordP w a = true) : t7 w a % 2 ^ w.toNat = a := by
  have q := u4 ha
  rw [sg_n ha]
  split
  . exact nJ ha
  . rw [Int.sub_emod_right];exact nJ ha
theorem qkf {v w : Int} (h : v <= w) : (2 : Int) ^ v.toNat <= 2 ^ w.toNat := by
  have h1 : 2 ^ v.toNat <= 2 ^ w.toNat := Nat.pow_le_pow_right (by decide) omG
  have h2 := jG v.toNat
  have h3 := jG w.toNat
  omega
theorem pow_dvd {v w : Int} (h : v <= w) : (2 : Int) ^ v.toNat ∣ 2 ^ w.toNat := by
  have e : (2 : Int) ^ w.toNat = 2 ^ v.toNat * 2 ^ (w.toNat - v.toNat) := by rw [<- Int.pow_add,show v.toNat + (w.toNat - v.toNat) = w.toNat by omega]
  rw [e]
  exact Int.dvd_mul_right _ _
theorem mK {w a n : Int} (ha : wordP w a = true) (h1 : w <= n) (h2 : n <= 16) : z8 w a n false = a := by
  unfold z8
  rw [if_pos ⟨ha,h1,h2⟩,if_neg Bool.false_ne_true]
theorem nK {w a n : Int} (ha : wordP w a = true) (h1 : w <= n) (h2 : n <= 16) : z8 w a n true = t7 w a % 2 ^ n.toNat := by
  have F := k6.1 (u4 ha).1
  unfold z8
  rw [if_pos ⟨ha,h1,h2⟩,if_pos rfl,oH (k6.2 ⟨by omega,h2⟩)]
theorem qhy {w a : Int} (ha : wordP w a = true) (s : Bool) : z8 w a w s = a := by
  have F := k6.1 (u4 ha).1
  cases s
  . exact mK ha (Int.le_refl _) F.2
  . rw [nK ha (Int.le_refl _) F.2];exact sg_m ha
theorem sg_wid {w a n : Int} (ha : wordP w a = true) (h1 : w <= n) (h2 : n <= 16) : t7 n (t7 w a % 2 ^ n.toNat) = t7 w a := by
  have F := k6.1 (u4 ha).1
  have hs := sg_r ha
  have hn := nK ha h1 h2
  have hw := zM (s := true) ha h1 h2
  rw [hn] at hw
  have hm := qkf (v := w - 1) (w := n - 1) omG
  have hh := yW (w := n) omG
  rw [sg_n hw]
  by_cases c : 0 <= t7 w a
  . rw [Int.emod_eq_of_lt c omG,if_pos omG]
  . have e : t7 w a % 2 ^ n.toNat = t7 w a + 2 ^ n.toNat := by
      rw [<- Int.add_emod_right]
      exact Int.emod_eq_of_lt omG omG
    rw [e,if_neg omG]
    omega
theorem wid_wid {w a n m : Int} (s : Bool) (ha : wordP w a = true) (h1 : w <= n) (h2 : n <= m) (h3 : m <= 16) : z8 n (z8 w a n s) m s = z8 w a m s := by
  have hw := zM (s := s) ha h1 (show n <= 16 by omega)
  cases s
  . rw [mK hw h2 h3,mK ha h1 omG,mK ha omG h3]
  . rw [nK hw h2 h3,nK ha h1 omG,nK ha omG h3,sg_wid ha h1 omG]
theorem wid_mod {w a n : Int} (s : Bool) (ha : wordP w a = true) (h1 : w <= n) (h2 : n <= 16) : (z8 w a n s).toNat % 2 ^ w.toNat = a.toNat := by
  have hw := zM (s := s) ha h1 h2
  have e : z8 w a n s % 2 ^ w.toNat = a := by
    cases s
    . rw [mK ha h1 h2];exact nJ ha
    . rw [nK ha h1 h2,Int.emod_emod_of_dvd _ (pow_dvd h1)]
      exact sg_m ha
  have e2 := congrArg Int.toNat e
  rw [<- e2,<- back hw,<- jG,<- Int.natCast_emod]
  rfl
theorem cut_wid {w a v l n : Int} (s : Bool) (ha : wordP w a = true) (h1 : w <= v) (h2 : v <= 16) (h3 : 0 <= l) (h4 : 1 <= n) (h5 : l + n <= w) : v8 v (z8 w a v s) l n = v8 w a l n := by
  have hw := zM (s := s) ha h1 h2
  rw [wF hw h3 h4 omG,wF ha h3 h4 omG,<- wid_mod s ha h1 h2,vV _ omG]
/-! ### signs -/
theorem u1 {w a : Int} (ha : wordP w a = true) : r7 1 w a = 2 ^ w.toNat - 1 - a := by
  unfold r7
  rw [if_pos ha,if_pos rfl]
theorem u2 {w a : Int} (ha : wordP w a = true) : r7 2 w a = (- a) % 2 ^ w.toNat := by
  have q := u4 ha
  have q3 := yK q.1
  unfold r7
  rw [if_pos ha,if_neg (by decide),if_pos rfl,oH q.1,j3 omG omG,Int.zero_sub]
theorem uu {op w a : Int} (ho : op = 1 \/ op = 2) (ha : wordP w a = true) : r7 op w (r7 op w a) = a := by
  have hu := qhd ho ha
  rcases ho with rfl|rfl
  . rw [u1 hu,u1 ha];omega
  . rw [u2 hu,u2 ha]
    have e : - ((- a) % 2 ^ w.toNat) = a + 2 ^ w.toNat * ((- a) / 2 ^ w.toNat) := by
      rw [Int.emod_def];omega
    rw [e,Int.add_mul_emod_self_left]
    exact nJ ha
theorem sh0 {op w a : Int} (ho : op = 11 \/ op = 12 \/ op = 13) (ha : wordP w a = true) (h0 : wordP w 0 = true) : m4 op w a 0 = a := by
  have q := u4 ha
  have F := k6.1 q.1
  have q3 := yK q.1
  have e : m4 op w a 0 = dB op w a 0 := by
    unfold m4
    rw [if_pos (aG ha h0),if_neg omG,if_neg omG,if_neg omG,if_neg omG,if_neg omG,if_neg omG,if_neg omG,if_neg omG,if_pos ho]
  rw [e]
  have e0 : min (0 : Int).toNat IntKind.i64.bits = 0 := rfl
  unfold dB
  by_cases c : op = 13
  . rw [if_pos c,if_neg (show ¬ w - 1 < 0 by omega),e0,Int.pow_zero,Int.fdiv_one,oH q.1]
    exact sg_m ha
  rw [if_neg c,if_neg omG,e0,Int.pow_zero,Int.mul_one,Int.fdiv_one]
  by_cases c2 : op = 11
  . rw [if_pos c2,oH q.1,j3 omG omG]
    exact nJ ha
  . rw [if_neg c2]
/-! ### in any order, in any brackets -/
theorem qg0 {w a b : Int} (ha : wordP w a = true) (hb : wordP w b = true) : (m4 8 w a b).toNat = a.toNat &&& b.toNat := by rw [b8 ha hb];rfl
theorem qgz {w a b : Int} (ha : wordP w a = true) (hb : wordP w b = true) : (m4 9 w a b).toNat = a.toNat ||| b.toNat := by rw [b9 ha hb];rfl
theorem qg1 {w a b : Int} (ha : wordP w a = true) (hb : wordP w b = true) : (m4 10 w a b).toNat = a.toNat ^^^ b.toNat := by rw [b10 ha hb];rfl
theorem assoc_b {op w a b c : Int} (ho : g4 op) (h14 : op ≠ 14) (ha : wordP w a = true) (hb : wordP w b = true) (hc : wordP w c = true) : m4 op w (m4 op w a b) c = m4 op w a (m4 op w b c) := by
  have hr : 3 <= op /\ op <= 16 := by unfold g4 at ho;omega
  have hab := qM (op := op) hr ha hb
  have hbc := qM (op := op) hr hb hc
  rcases ho with rfl|rfl|rfl|rfl|rfl|rfl
  . rw [b3 hab hc,b3 ha hbc,b3 ha hb,b3 hb hc,Int.emod_add_emod,Int.add_emod_emod,Int.add_assoc]
  . rw [b5 hab hc,b5 ha hbc,b5 ha hb,b5 hb hc,Int.mul_emod,Int.emod_emod_of_dvd _ (Int.dvd_refl _),<- Int.mul_emod,Int.mul_emod a,Int.emod_emod_of_dvd _ (Int.dvd_refl _),<- Int.mul_emod,Int.mul_assoc]
  . rw [b8 hab hc,b8 ha hbc,qg0 ha hb,qg0 hb hc,Nat.and_assoc]
  . rw [b9 hab hc,b9 ha hbc,qgz ha hb,qgz hb hc,Nat.or_assoc]
  . rw [b10 hab hc,b10 ha hbc,qg1 ha hb,qg1 hb hc,Nat.xor_assoc]
  . exact absurd rfl h14
section
variable {σ : ByteArray -> Int}
theorem pG {l : List V.Term} {i : Nat} : xAt (y6 σ l) i = evT σ (kAt l i) := by
  by_cases h : i < l.length
  . exact nS h
  . have e1 : kAt l i = K.terms.dflt := by
      unfold kAt
      rw [List.getD_eq_getElem?_getD,List.getElem?_eq_none omG];rfl
    have e2 : xAt (y6 σ l) i = K.ints.dflt := by
      unfold xAt
      rw [List.getD_eq_getElem?_getD,List.getElem?_eq_none (by rw [sX];omega)];rfl
    rw [e1,e2]
    show (0 : Int) = evT σ ⟨0,0,0,ByteArray.empty,[]⟩
    rw [evT,if_pos rfl]
theorem tA {t : V.Term} (ho : t.op = 0) : evT σ t = t.n := by rw [jC,if_pos ho]
theorem iE {w n : Int} : evT σ (cT w n) = n := tA rfl
theorem rI {t : V.Term} (ho : t.op = 1 \/ t.op = 2) : evT σ t = r7 t.op (k0 t).w (evT σ (k0 t)) := by
  rw [jC,if_neg omG,if_neg omG]
  unfold w6
  rw [if_pos ho,pG]
theorem tB {t : V.Term} (ho : 3 <= t.op /\ t.op <= 16) : evT σ t = m4 t.op (k0 t).w (evT σ (k0 t)) (evT σ (k1 t)) := by
  rw [jC,if_neg omG,if_neg omG]
  unfold w6
  rw [if_neg omG,if_pos ho,pG,pG]
theorem nG {t : V.Term} (ho : t.op = 17) : evT σ t = if evT σ (k0 t) = 1 then evT σ (k1 t) else evT σ (k2 t) := by
  rw [jC,if_neg omG,if_neg omG]
  unfold w6
  rw [if_neg omG,if_neg omG,if_pos ho,pG,pG,pG]
theorem ev_j {t : V.Term} (ho : t.op = 18) : evT σ t = gB (k0 t).w (evT σ (k0 t)) (k1 t).w (evT σ (k1 t)) := by
  rw [jC,if_neg omG,if_neg omG]
  unfold w6
  rw [if_neg omG,if_neg omG,if_neg omG,if_pos ho,pG,pG]
theorem uF {t : V.Term} (ho : t.op = 19) : evT σ t = v8 (k0 t).w (evT σ (k0 t)) t.n t.w := by
  rw [jC,if_neg omG,if_neg omG]
  unfold w6
  rw [if_neg omG,if_neg omG,if_neg omG,if_neg omG,if_pos ho,pG]
theorem vJ {t : V.Term} (ho : t.op = 20 \/ t.op = 21) : evT σ t = z8 (k0 t).w (evT σ (k0 t)) t.w (t.op == 21) := by
  rw [jC,if_neg omG,if_neg omG]
  unfold w6
  rw [if_neg omG,if_neg omG,if_neg omG,if_neg omG,if_neg omG,pG]
structure GT (σ : ByteArray -> Int) (t : V.Term) : Prop where
  ok : okT t = true
  gv : w7 σ t
theorem GT.wd {t : V.Term} (h : GT σ t) : wordP t.w (evT σ t) = true := eM h.ok h.gv
theorem GT.k0 {t : V.Term} (h : GT σ t) (ho : 1 <= t.op /\ t.op <= 21) : GT σ (k0 t) := ⟨ok0 h.ok ho,fun v hv=>h.gv v (sB hv)⟩
theorem GT.k1 {t : V.Term} (h : GT σ t) (ho : 3 <= t.op /\ t.op <= 18) : GT σ (k1 t) := ⟨y4 h.ok ho,fun v hv=>h.gv v (eH hv)⟩
theorem GT.k2 {t : V.Term} (h : GT σ t) (ho : t.op = 17) : GT σ (k2 t) := ⟨ok2 h.ok ho,fun v hv=>h.gv v (nW hv)⟩
theorem g8 {c : Prop} [Decidable c] {a b : V.Term × Bool} {P : V.Term -> Prop} (ha : c -> P a.1) (hb : ¬ c -> P b.1) : P (if c then a else b).1 := by
  by_cases q : c
  . rw [if_pos q];exact ha q
  . rw [if_neg q];exact hb q
theorem qP {a : Int} (h : wordP 1 a = true) : a = 0 \/ a = 1 := by
  have := u4 h
  have e : (2 : Int) ^ (1 : Int).toNat = 2 := rfl
  omega
variable {t : V.Term}
theorem redU_ev (h : GT σ t) (ho : t.op = 1 \/ t.op = 2) : evT σ (dF t).1 = evT σ t := by
  unfold dF
  refine g8 (P := fun x=>evT σ x = evT σ t) (fun c=>?_) (fun _=>rfl)
  have h0 := h.k0 omG
  have h00 := h0.k0 omG
  have f0 := tF h.ok ho
  have f1 := tF h0.ok omG
  have hw := h00.wd
  rw [f1] at hw
  show evT σ (k0 (k0 t)) = _
  rw [rI ho,rI (t := k0 t) omG,c,f1,uu ho hw]
theorem redI_ev (h : GT σ t) (ho : t.op = 17) : evT σ (gG t).1 = evT σ t := by
  have h0 := h.k0 omG
  have h1 := h.k1 omG
  have h2 := h.k2 ho
  have f := xO h.ok ho
  have w0 := h0.wd
  rw [f.1] at w0
  have z0 := qP w0
  unfold gG
  refine g8 (P := fun x=>evT σ x = evT σ t) (fun c=>?_) (fun c1=>?_)
  . rw [nG ho,tA c.1,if_pos c.2]
  refine g8 (P := fun x=>evT σ x = evT σ t) (fun c=>?_) (fun c2=>?_)
  . rw [nG ho,tA c,if_neg (fun e=>c1 ⟨c,e⟩)]
  refine g8 (P := fun x=>evT σ x = evT σ t) (fun c=>?_) (fun c3=>?_)
  . have e := mM _ _ c
    rw [nG ho,<- e]
    split <;> rfl
  refine g8 (P := fun x=>evT σ x = evT σ t) (fun c=>?_) (fun c4=>?_)
  . have h00 := h0.k0 omG
    have f0 := tF h0.ok (.inl c)
    have w00 := h00.wd
    rw [f0,f.1] at w00
    have z := qP w00
    have e0 : evT σ (k0 t) = 1 - evT σ (k0 (k0 t)) := by
      rw [rI (.inl c),f0,f.1,c,u1 w00];rfl
    show evT σ (oT 17 t.w 0 [k0 (k0 t),k2 t,k1 t]) = _
    have e1 : evT σ (oT 17 t.w 0 [k0 (k0 t),k2 t,k1 t]) = if evT σ (k0 (k0 t)) = 1 then evT σ (k2 t) else evT σ (k1 t) := nG (t := oT 17 t.w 0 [k0 (k0 t),k2 t,k1 t]) rfl
    rw [e1,nG ho,e0]
    rcases z with z|z <;> (rw [z];simp)
  refine g8 (P := fun x=>evT σ x = evT σ t) (fun c=>?_) (fun c5=>?_)
  . rw [nG ho,tA c.2.1.1,tA c.2.2.1,c.2.1.2,c.2.2.2]
    show evT σ (k0 t) = _
    rcases z0 with z|z <;> (rw [z];simp)
  refine g8 (P := fun x=>evT σ x = evT σ t) (fun c=>?_) (fun _=>rfl)
  . rw [nG ho,tA c.2.1.1,tA c.2.2.1,c.2.1.2,c.2.2.2]
    show evT σ (oT 1 1 0 [k0 t]) = _
    have e1 : evT σ (oT 1 1 0 [k0 t]) = r7 1 (k0 t).w (evT σ (k0 t)) := rI (t := oT 1 1 0 [k0 t]) (.inl rfl)
    rw [e1,f.1,u1 w0]
    rcases z0 with z|z <;> (rw [z];rfl)
theorem redC_ev (h : GT σ t) (ho : t.op = 19) : evT σ (iG t).1 = evT σ t := by
  have h0 := h.k0 omG
  have f := nB h.ok ho
  have w0 := h0.wd
  have tw := f8 h.ok
  have eo : ∀ (n : Int) (x : V.Term),evT σ (oT 19 t.w n [x]) = v8 x.w (evT σ x) n t.w := fun n x=>uF (t := oT 19 t.w n [x]) rfl
  unfold iG
  refine g8 (P := fun x=>evT σ x = evT σ t) (fun c=>?_) (fun c1=>?_)
  . rw [uF ho,c.1,c.2]
    exact (cut_all w0).symm
  refine g8 (P := fun x=>evT σ x = evT σ t) (fun c=>?_) (fun c2=>?_)
  . have h00 := h0.k0 omG
    have f0 := nB h0.ok c
    have kw := f8 h0.ok
    show evT σ (oT 19 t.w (t.n + (k0 t).n) [k0 (k0 t)]) = _
    rw [eo,uF ho,uF (t := k0 t) c,cut_cut h00.wd f0.1 kw.1 omG f.1 tw.1 omG]
  refine g8 (P := fun x=>evT σ x = evT σ t) (fun c=>?_) (fun c3=>?_)
  . have h00 := h0.k0 omG
    have h01 := h0.k1 omG
    have f0 := rJ h0.ok c.1
    have kw := f8 h0.ok
    show evT σ (oT 19 t.w t.n [k1 (k0 t)]) = _
    rw [eo,uF ho,ev_j (t := k0 t) c.1,<- f0,cut_low h00.wd h01.wd omG f.1 tw.1 c.2]
  refine g8 (P := fun x=>evT σ x = evT σ t) (fun c=>?_) (fun c4=>?_)
  . have h00 := h0.k0 omG
    have h01 := h0.k1 omG
    have f0 := rJ h0.ok c.1
    have kw := f8 h0.ok
    show evT σ (oT 19 t.w (t.n - (k1 (k0 t)).w) [k0 (k0 t)]) = _
    rw [eo,uF ho,ev_j (t := k0 t) c.1,<- f0,qnz h00.wd h01.wd omG c.2 tw.1 omG]
  refine g8 (P := fun x=>evT σ x = evT σ t) (fun c=>?_) (fun _=>rfl)
  . have h00 := h0.k0 omG
    have f0 := sJ h0.ok c.1
    have kw := f8 h0.ok
    show evT σ (oT 19 t.w t.n [k0 (k0 t)]) = _
    rw [eo,uF ho,vJ (t := k0 t) c.1,cut_wid _ h00.wd f0 kw.2 f.1 tw.1 c.2]
theorem redW_ev (h : GT σ t) (ho : t.op = 20 \/ t.op = 21) : evT σ (eG t).1 = evT σ t := by
  have h0 := h.k0 omG
  have f := sJ h.ok ho
  have w0 := h0.wd
  have tw := f8 h.ok
  unfold eG
  refine g8 (P := fun x=>evT σ x = evT σ t) (fun c=>?_) (fun c1=>?_)
  . rw [vJ ho,c]
    exact (qhy w0 _).symm
  refine g8 (P := fun x=>evT σ x = evT σ t) (fun c=>?_) (fun _=>rfl)
  . have h00 := h0.k0 omG
    have f0 := sJ h0.ok omG
    show evT σ (oT t.op t.w 0 [k0 (k0 t)]) = _
    have eo : evT σ (oT t.op t.w 0 [k0 (k0 t)]) = z8 (k0 (k0 t)).w (evT σ (k0 (k0 t))) t.w (t.op == 21) := vJ (t := oT t.op t.w 0 [k0 (k0 t)]) ho
    rw [eo,vJ ho,vJ (t := k0 t) omG,c,wid_wid _ h00.wd f0 f tw.2]
theorem redJ_ev (h : GT σ t) (ho : t.op = 18) : evT σ (fG t).1 = evT σ t := by
  have h0 := h.k0 omG
  have h1 := h.k1 omG
  have f := rJ h.ok ho
  have w0 := f8 h0.ok
  have w1 := f8 h1.ok
  unfold fG
  refine g8 (P := fun x=>evT σ x = evT σ t) (fun c=>?_) (fun _=>rfl)
  have e := mM _ _ c.2.2.2
  have h10 := h1.k0 omG
  have f0 := nB h0.ok c.1
  have f1 := nB h1.ok c.2.1
  show evT σ (oT 19 t.w (k1 t).n [k0 (k1 t)]) = _
  have eo : evT σ (oT 19 t.w (k1 t).n [k0 (k1 t)]) = v8 (k0 (k1 t)).w (evT σ (k0 (k1 t))) (k1 t).n t.w := uF (t := oT 19 t.w (k1 t).n [k0 (k1 t)]) rfl
  rw [e] at f0
  rw [eo,ev_j ho,uF (t := k0 t) c.1,uF (t := k1 t) c.2.1,e,c.2.2.1,qli h10.wd f1.1 w1.1 w0.1 omG,f]
theorem redB_ev (h : GT σ t) (ho : 3 <= t.op /\ t.op <= 16) : evT σ (a6 t).1 = evT σ t := by
  have h0 := h.k0 omG
  have h1 := h.k1 omG
  have fb := fit_b h.ok
  have fr := pI h.ok
  have ew : (k1 t).w = (k0 t).w := by omega
  have w0 := h0.wd
  have w1 := h1.wd
  rw [ew] at w1
  have q0 := u4 w0
  have q1 := u4 w1
  have m0 := nJ w0
  have m1 := nJ w1
  have onew : ∀ n : Int,(k0 t).op = 0 -> (k0 t).n = n -> wordP (k0 t).w n = true := by
    intro n c e;rw [<- e];exact const_w h0.ok c
  unfold a6
  refine g8 (P := fun x=>evT σ x = evT σ t) (fun c=>?_) (fun c1=>?_)
  . show evT σ (oT t.op t.w 0 [k1 t,k0 t]) = _
    have eo : evT σ (oT t.op t.w 0 [k1 t,k0 t]) = m4 t.op (k1 t).w (evT σ (k1 t)) (evT σ (k0 t)) := tB (t := oT t.op t.w 0 [k1 t,k0 t]) ho
    rw [eo,tB ho,ew,swap_b c.1 w1 w0]
  clear c1
  refine g8 (P := fun x=>evT σ x = evT σ t) (fun c=>?_) (fun c1=>?_)
  . have en : evT σ (k0 t) = (k0 t).n := tA c.1
    show evT σ (k1 t) = _
    rw [tB ho,en]
    rcases c.2 with c|c|c|c|c|c
    . rw [c.1,c.2,b3 (onew 0 ‹_ /\ _›.1 c.2) w1,Int.zero_add,m1]
    . rw [c.1,c.2,b5 (onew 1 ‹_ /\ _›.1 c.2) w1,Int.one_mul,m1]
    . rw [c.1,c.2,qon w1 (onew _ ‹_ /\ _›.1 c.2)]
    . rw [c.1,c.2,b9 (onew 0 ‹_ /\ _›.1 c.2) w1]
      show _ = ((0 ||| (evT σ (k1 t)).toNat : Nat) : Int)
      rw [Nat.zero_or,back w1]
    . rw [c.1,c.2,b10 (onew 0 ‹_ /\ _›.1 c.2) w1]
      show _ = ((0 ^^^ (evT σ (k1 t)).toNat : Nat) : Int)
      rw [Nat.zero_xor,back w1]
    . have o1 := onew 1 ‹_ /\ _›.1 c.2.2
      rw [c.1,c.2.2,b14 o1 w1]
      rw [c.2.1] at w1
      rcases qP w1 with z|z <;> (rw [z];rfl)
  clear c1
  refine g8 (P := fun x=>evT σ x = evT σ t) (fun c=>?_) (fun c1=>?_)
  . have en : evT σ (k0 t) = (k0 t).n := tA c.1
    show evT σ (cT t.w 0) = _
    rw [iE,tB ho,en]
    rcases c.2 with c|c
    . rw [c.1,c.2,b5 (onew 0 ‹_ /\ _›.1 c.2) w1,Int.zero_mul,Int.zero_emod]
    . rw [c.1,c.2,b8 (onew 0 ‹_ /\ _›.1 c.2) w1]
      show _ = ((0 &&& (evT σ (k1 t)).toNat : Nat) : Int)
      rw [Nat.zero_and];rfl
  clear c1
  refine g8 (P := fun x=>evT σ x = evT σ t) (fun c=>?_) (fun c1=>?_)
  . have en : evT σ (k0 t) = (k0 t).n := tA c.1
    show evT σ (cT t.w (onW (k0 t).w)) = _
    rw [iE,tB ho,en,c.2.1,c.2.2,or_ones w1 (onew _ c.1 c.2.2)]
  clear c1
  refine g8 (P := fun x=>evT σ x = evT σ t) (fun c=>?_) (fun c1=>?_)
  . have en : evT σ (k0 t) = (k0 t).n := tA c.1
    show evT σ (oT 1 t.w 0 [k1 t]) = _
    have eo : evT σ (oT 1 t.w 0 [k1 t]) = r7 1 (k1 t).w (evT σ (k1 t)) := rI (t := oT 1 t.w 0 [k1 t]) (.inl rfl)
    rw [eo,tB ho,en,ew]
    rcases c.2 with c|c
    . rw [c.1,c.2,qhv w1 (onew _ ‹_ /\ _›.1 c.2)]
    . have o1 := onew 0 ‹_ /\ _›.1 c.2.2
      rw [c.1,c.2.2,b14 o1 w1,u1 w1]
      rw [c.2.1] at w1 ⊢
      rcases qP w1 with z|z <;> (rw [z];rfl)
  clear c1
  refine g8 (P := fun x=>evT σ x = evT σ t) (fun c=>?_) (fun c1=>?_)
  . have en : evT σ (k1 t) = 0 := (tA c.1).trans c.2.1
    show evT σ (k0 t) = _
    rw [tB ho,en]
    rw [en] at w1
    rcases c.2.2 with c|c
    . rw [c,b4 w0 w1,Int.sub_zero,m0]
    . rw [sh0 c w0 w1]
  clear c1
  refine g8 (P := fun x=>evT σ x = evT σ t) (fun c=>?_) (fun c1=>?_)
  . have en : evT σ (k1 t) = 0 := (tA c.1).trans c.2.1
    show evT σ (cT 1 0) = _
    rw [iE,tB ho,en]
    rw [en] at w1
    rw [c.2.2,b15 w0 w1,decide_eq_false omG];rfl
  clear c1
  refine g8 (P := fun x=>evT σ x = evT σ t) (fun c=>?_) (fun c1=>?_)
  . have e := mM _ _ c.1
    show evT σ (k0 t) = _
    rw [tB ho,<- e]
    rcases c.2 with c|c
    . rw [c,b8 w0 w0,Nat.and_self,back w0]
    . rw [c,b9 w0 w0,Nat.or_self,back w0]
  clear c1
  refine g8 (P := fun x=>evT σ x = evT σ t) (fun c=>?_) (fun c1=>?_)
  . have e := mM _ _ c.1
    show evT σ (cT t.w 0) = _
    rw [iE,tB ho,<- e]
    rcases c.2 with c|c|c|c
    . rw [c,b4 w0 w0,Int.sub_self,Int.zero_emod]
    . rw [c,b10 w0 w0,Nat.xor_self];rfl
    . rw [c,b15 w0 w0,decide_eq_false omG];rfl
    . rw [c,b16 w0 w0,decide_eq_false omG];rfl
  clear c1
  refine g8 (P := fun x=>evT σ x = evT σ t) (fun c=>?_) (fun c1=>?_)
  . have e := mM _ _ c.1
    show evT σ (cT 1 1) = _
    rw [iE,tB ho,<- e,c.2,b14 w0 w0,beq_self_eq_true];rfl
  clear c1
  refine g8 (P := fun x=>evT σ x = evT σ t) (fun c=>?_) (fun _=>rfl)
  . have hs := c.1.1
    have h13 : 3 <= t.op /\ t.op <= 13 := by have := c.1.2;unfold g4 at hs;omega
    have f := fit_b h.ok h13
    have g := fit_b h1.ok omG
    have h10 := h1.k0 omG
    have h11 := h1.k1 omG
    have x0 := h10.wd
    have x1 := h11.wd
    rw [g.1,ew] at x0
    rw [g.2,ew] at x1
    show evT σ (oT t.op t.w 0 [cT t.w (m4 t.op t.w (k0 t).n (k0 (k1 t)).n),k1 (k1 t)]) = _
    have eo : evT σ (oT t.op t.w 0 [cT t.w (m4 t.op t.w (k0 t).n (k0 (k1 t)).n),k1 (k1 t)]) = m4 t.op t.w (evT σ (cT t.w (m4 t.op t.w (k0 t).n (k0 (k1 t)).n))) (evT σ (k1 (k1 t))) := tB (t := oT t.op t.w 0 [cT t.w (m4 t.op t.w (k0 t).n (k0 (k1 t)).n),k1 (k1 t)]) ho
    rw [eo,iE,tB ho,tB (t := k1 t) omG,c.2.2.1,<- tA (σ := σ) c.2.1,<- tA (σ := σ) c.2.2.2,g.1,ew,f.1]
    rw [f.1] at w0 x0 x1
    exact assoc_b hs c.1.2 w0 x0 x1
theorem qbv (h : GT σ t) (ho : 1 <= t.op /\ t.op <= 21) : evT σ (s5 t).1 = evT σ t := by
  unfold s5
  refine g8 (P := fun x=>evT σ x = evT σ t) (fun c=>redU_ev h c) (fun c1=>?_)
  refine g8 (P := fun x=>evT σ x = evT σ t) (fun c=>redI_ev h c) (fun c2=>?_)
  refine g8 (P := fun x=>evT σ x = evT σ t) (fun c=>redC_ev h c) (fun c3=>?_)
  refine g8 (P := fun x=>evT σ x = evT σ t) (fun c=>redW_ev h c) (fun c4=>?_)
  refine g8 (P := fun x=>evT σ x = evT σ t) (fun c=>redJ_ev h c) (fun c5=>?_)
  exact redB_ev h omG
theorem qcb : ∀ {l : List V.Term},k5 l = true -> nums l = y6 σ l
  | [],_=>by rw [y6];rfl
  | a :: l,h=>by
    simp only [k5,List.all_cons,Bool.and_eq_true,decide_eq_true_eq] at h
    rw [y6,tA h.1,<- qcb (l := l) h.2];rfl
end
theorem qcx {σ : ByteArray -> Int} : ∀ (f : Nat) (t : V.Term),GT σ t -> evT σ (dA f t) = evT σ t
  | 0,t,_=>rfl
  | f + 1,t,h=>by
    rw [dA]
    by_cases c1 : t.kids.length = 0
    . rw [if_pos c1]
    rw [if_neg c1]
    have ho : 1 <= t.op /\ t.op <= 21 := yH h.ok (fun e=>c1 (by rw [e];rfl))
    by_cases c2 : k5 t.kids = true
    . rw [if_pos c2,iE,jC,if_neg omG,if_neg omG,qcb c2]
    rw [if_neg c2]
    by_cases c3 : (s5 t).2 = true
    . rw [if_pos c3]
      have h1 := m9 (x := (s5 t).1) h.ok ho (Prod.ext rfl c3)
      rw [qcx f _ ⟨h1.1,fun v hv=>h.gv v (sU omG hv)⟩,qbv h ho]
    . rw [if_neg c3,qbv h ho]
theorem mkT_ev {σ : ByteArray -> Int} {t : V.Term} (h : okT t = true) (hg : w7 σ t) : evT σ (j4 t) = evT σ t := qcx _ t ⟨h,hg⟩
def yO : List V.Val -> ByteArray -> Int
  | [],_ => -1
  | x :: l,nm=>if x.name = nm then 0 else if yO l nm < 0 then -1 else yO l nm + 1
abbrev vAt (l : List V.Val) (i : Nat) : V.Val := l.getD i K.vals.dflt
section
variable {l : List V.Val} {nm : ByteArray} {i : Nat}
end
structure VOk (L : List V.Val) (σ : ByteArray -> Int) (t : V.Term) : Prop where
  h : ∀ v,v ∈ varsT t -> 0 <= yO L v.1 /\ (vAt L (yO L v.1).toNat).w = v.2 /\ (vAt L (yO L v.1).toNat).n = σ v.1
def d9 (w : Int) (l : List Int) (k : Nat) : List V.Val := (List.range k).map fun (j : Nat)=>⟨l6 (j : Int),w,l.getD j 0⟩
theorem qh4 {w : Int} {l : List Int} {k : Nat} : d9 w l (k + 1) = d9 w l k ++ [⟨l6 k,w,l.getD k 0⟩] := by
  unfold d9
  rw [List.range_succ,List.map_append];rfl
theorem bJ {w : Int} {l : List Int} {k : Nat} : (d9 w l k).length = k := by
  unfold d9;rw [List.length_map,List.length_range]
theorem tW {p : V.Prog} {l : List Int} (h : s8 p l = true) : i4 p = true /\ InOk p l := by
  unfold s8 at h
  simp only [Bool.and_eq_true,beq_iff_eq,List.all_eq_true] at h
  exact ⟨h.1,⟨h.2.2,h.2.1⟩⟩
noncomputable def iA (l : List Int) : Nat -> List (ByteArray × Int)
  | 0=>[]
  | k + 1=>y8 (iA l k) (l6 k) (l.getD k 0)
theorem wC (l : List Int) (s : ByteArray) : mget (iA l 1) s = if l6 0 = s then some (l.getD 0 0) else none := by
  show mget (y8 [] (l6 0) (l.getD 0 0)) s = _
  rw [yN rfl];rfl
theorem jE (l : List Int) (s : ByteArray) : mget (iA l 2) s = if l6 1 = s then some (l.getD 1 0) else mget (iA l 1) s := by
  show mget (y8 (iA l 1) (l6 1) (l.getD 1 0)) s = _
  rw [yN]
  rw [wC,if_neg (by decide)]
theorem wJ (l : List Int) (s : ByteArray) : mget (iA l 3) s = if l6 2 = s then some (l.getD 2 0) else mget (iA l 2) s := by
  show mget (y8 (iA l 2) (l6 2) (l.getD 2 0)) s = _
  rw [yN]
  rw [jE,if_neg (by decide),wC,if_neg (by decide)]
def sM (m : List (ByteArray × Int)) (s : ByteArray) : Int := (mget m s).getD 0
theorem tX {l : List Int} (h : l.length <= 3) : sM (iA l l.length) = j2 l := by
  funext s
  have g0 : ∀ k : Nat,l.length <= k -> l.getD k 0 = 0 := by
    intro k hk
    rw [List.getD_eq_getElem?_getD,List.getElem?_eq_none hk];rfl
  have e01 : ¬ l6 0 = l6 1 := by decide
  have e02 : ¬ l6 0 = l6 2 := by decide
  have e12 : ¬ l6 1 = l6 2 := by decide
  have hn : l.length = 0 \/ l.length = 1 \/ l.length = 2 \/ l.length = 3 := by omega
  unfold sM j2
  by_cases c0 : s = l6 0
  . subst c0
    rw [if_pos rfl]
    rcases hn with n|n|n|n <;> rw [n]
    . exact (g0 0 omG).symm
    . rw [wC,if_pos rfl];rfl
    . rw [jE,if_neg (fun e=>e01 e.symm),wC,if_pos rfl];rfl
    . rw [wJ,if_neg (fun e=>e02 e.symm),jE,if_neg (fun e=>e01 e.symm),wC,if_pos rfl];rfl
  rw [if_neg c0]
  by_cases c1 : s = l6 1
  . subst c1
    rw [if_pos rfl]
    rcases hn with n|n|n|n <;> rw [n]
    . exact (g0 1 omG).symm
    . rw [wC,if_neg e01];exact (g0 1 omG).symm
    . rw [jE,if_pos rfl];rfl
    . rw [wJ,if_neg (fun e=>e12 e.symm),jE,if_pos rfl];rfl
  rw [if_neg c1]
  by_cases c2 : s = l6 2
  . subst c2
    rw [if_pos rfl]
    rcases hn with n|n|n|n <;> rw [n]
    . exact (g0 2 omG).symm
    . rw [wC,if_neg e02];exact (g0 2 omG).symm
    . rw [jE,if_neg e12,wC,if_neg e02];exact (g0 2 omG).symm
    . rw [wJ,if_pos rfl];rfl
  rw [if_neg c2]
  rcases hn with n|n|n|n <;> rw [n]
  . rfl
  . rw [wC,if_neg (fun e=>c0 e.symm)];rfl
  . rw [jE,if_neg (fun e=>c1 e.symm),wC,if_neg (fun e=>c0 e.symm)];rfl
  . rw [wJ,if_neg (fun e=>c2 e.symm),jE,if_neg (fun e=>c1 e.symm),wC,if_neg (fun e=>c0 e.symm)];rfl
set_option maxRecDepth 100000
set_option maxHeartbeats 40000000
structure IHEv (m : List (ByteArray × Int)) (z : Bool) (t : V.Term) : Prop where
  call : ∀ (op w n : Int) (nm : ByteArray) (ks : List V.Term),okT ⟨op,w,n,nm,ks⟩ = true -> sizeT ⟨op,w,n,nm,ks⟩ < sizeT t ->
    CallsG Tryz.prog 112 [.agg [.dat (.i op),.dat (.i w),.dat (.i n),.dat (.str nm),.dat (.seq .terms ks)],.mp 0] [.mp m z] 1 (fun res B=>res = .dat (.i (evT (sM m) ⟨op,w,n,nm,ks⟩)) /\ B = [.mp m z])
theorem ih_ev {m : List (ByteArray × Int)} {z : Bool} {t : V.Term} (ih : IHEv m z t) {op w n : Int} {nm : ByteArray} {ks : List V.Term} (ht : okT ⟨op,w,n,nm,ks⟩ = true) (hs : sizeT ⟨op,w,n,nm,ks⟩ < sizeT t) :
    CallsG Tryz.prog 112 [.agg [.dat (.i op),.dat (.i w),.dat (.i n),.dat (.str nm),.dat (.seq .terms ks)],.mp 0] [.mp m z] 1 (fun res B=>res = .dat (.i (evT (sM m) ⟨op,w,n,nm,ks⟩)) /\ B = [.mp m z]) := ih.call op w n nm ks ht hs
theorem sk_0 {t : V.Term} (ht : okT t = true) (ho : 1 <= t.op /\ t.op <= 21) : sizeT (k0 t) < sizeT t := by
  by_cases c : t.op = 17
  . have := sz_i ht c;omega
  . by_cases c2 : (3 <= t.op /\ t.op <= 16) \/ t.op = 18
    . have := eJ ht c2;omega
    . have := xG ht omG;omega
theorem sk_1 {t : V.Term} (ht : okT t = true) (ho : 3 <= t.op /\ t.op <= 18) : sizeT (k1 t) < sizeT t := by
  by_cases c : t.op = 17
  . have := sz_i ht c;omega
  . have := eJ ht omG;omega
theorem sk_2 {t : V.Term} (ht : okT t = true) (ho : t.op = 17) : sizeT (k2 t) < sizeT t := by
  have := sz_i ht ho;omega
section
variable {σ : ByteArray -> Int} {t : V.Term}
theorem ei_v (ho : t.op = 22) : σ t.name = evT σ t := by rw [jC,if_neg omG,if_pos ho]
theorem ei_1 (ho : t.op = 17) (h : evT σ (k0 t) = 1) : evT σ (k1 t) = evT σ t := by rw [nG ho,if_pos h]
theorem ei_2 (ho : t.op = 17) (h : ¬ evT σ (k0 t) = 1) : evT σ (k2 t) = evT σ t := by rw [nG ho,if_neg h]
end
theorem i_ev0 (t : V.Term) (m : List (ByteArray × Int)) (z : Bool) (ih : IHEv m z t) (ht : okT t = true) : CallsG Tryz.prog 112 [.agg [.dat (.i t.op),.dat (.i t.w),.dat (.i t.n),.dat (.str t.name),.dat (.seq .terms t.kids)],.mp 0] [.mp m z] 1 (fun res B=>res = .dat (.i (evT (sM m) t)) /\ B = [.mp m z]) := by
  refine oG Tryz.func112 ⟨?_⟩
  repeat' (first|((with_reducible refine fun (K1 : KT) hK=>?_);refine w5 ⟨?_⟩)|((with_reducible show K1 _ _);subst hK;conv=>whnf)|refine st0 ⟨?_⟩|((with_reducible refine SplS.mk (fun h=>?_) (fun h=>?_)) <;> first|exact o4|(subst h;conv=>whnf)|(conv=>whnf))|refine f2 ⟨?_⟩ ⟨?_⟩|refine gS (ih_ev (ih := by assumption) (ht := ?_) (hs := ?_) ..) ⟨?_⟩|refine vP (qeo ..) ⟨?_⟩|refine vP (qem (hl := ?_) ..) ⟨?_⟩|refine vP (qeh ..) ⟨?_⟩|refine vP (qei ..) ⟨?_⟩|refine vP (lO ..) ⟨?_⟩|fail)
  all_goals repeat clear hK K1
  all_goals (try simp only [V.Term.eta] at *)
  all_goals (have l1 := zD ht;have l2 := tC ht;have l3 := hC ht;have lo := lV ht;first|omega|exact ok0 ht omG|exact y4 ht omG|exact ok2 ht omG|exact sk_0 ht omG|exact sk_1 ht omG|exact sk_2 ht omG|(have f := nB ht omG;have q := f8 (ok0 ht omG);have q2 := f8 ht;omega)|exact mH (tA (σ := sM m) (t := t) asmR).symm|exact mH (ei_v (σ := sM m) (t := t) asmR)|exact mH (ei_1 (σ := sM m) (t := t) asmR (by assumption))|exact mH (ei_2 (σ := sM m) (t := t) asmR (by assumption))|exact mH (rI (σ := sM m) (t := t) omG).symm|exact mH (tB (σ := sM m) (t := t) omG).symm|exact mH (ev_j (σ := sM m) (t := t) omG).symm|exact mH (uF (σ := sM m) (t := t) omG).symm|exact mH (vJ (σ := sM m) (t := t) omG).symm|skip)
theorem i_evM (op w n : Int) (nm : ByteArray) (ks : List V.Term) (m : List (ByteArray × Int)) (z : Bool) (ht : okT ⟨op,w,n,nm,ks⟩ = true) :
    CallsG Tryz.prog 112 [.agg [.dat (.i op),.dat (.i w),.dat (.i n),.dat (.str nm),.dat (.seq .terms ks)],.mp 0] [.mp m z] 1 (fun res B=>res = .dat (.i (evT (sM m) ⟨op,w,n,nm,ks⟩)) /\ B = [.mp m z]) := by
  have key : ∀ (k : Nat) (t : V.Term),sizeT t < k -> okT t = true -> CallsG Tryz.prog 112 [.agg [.dat (.i t.op),.dat (.i t.w),.dat (.i t.n),.dat (.str t.name),.dat (.seq .terms t.kids)],.mp 0] [.mp m z] 1 (fun res B=>res = .dat (.i (evT (sM m) t)) /\ B = [.mp m z]) := by
    intro k
    induction k with
    | zero=>intro t h;omega
    | succ k ih =>
      intro t h ht
      exact i_ev0 t m z ⟨fun op w n nm ks ht' hs=>ih ⟨op,w,n,nm,ks⟩ omG ht'⟩ ht
  exact key _ ⟨op,w,n,nm,ks⟩ (Nat.lt_succ_self _) ht
end Vg
