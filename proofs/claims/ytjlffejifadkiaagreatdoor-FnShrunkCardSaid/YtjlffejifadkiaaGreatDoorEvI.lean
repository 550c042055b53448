/- Words in plain numbers: what the operations on words compute. No condition. -/
import Derived.Test.YtjlffejifadkiaaGreatDoorEvQ
import Derived.Test.YtjlffejifadkiaaGreatDoorPfQ
import Derived.Test.YtjlffejifadkiaaGreatDoorSess
import Derived.Test.YtjlffejifadkiaaGreatDoorTermS
import Derived.Test.YtjlffejifadkiaaGreatDoorTermRB
namespace Vg
open Go Go.Proofs
theorem xX (k : Nat) : ((2 ^ k : Nat) : Int) = (2 : Int) ^ k := by push_cast; rfl
theorem pQ {k : Nat} (h : k ≤ 16) : (2 : Int) ^ k ≤ 65536 := by
  have h1 : 2 ^ k ≤ 2 ^ 16 := Nat.pow_le_pow_right (by decide) h
  have h2 := xX k
  have h3 : (2 : Nat) ^ 16 = 65536 := by decide
  omega
theorem qf6 (n : Int) : (BitVec.ofInt IntKind.i64.bits n).toNat = (n % 18446744073709551616).toNat := by
  show (BitVec.ofInt 64 n).toNat = _
  rw [BitVec.toNat_ofInt]; rfl
theorem qd1 {w n : Int} (h : inP w 1 16 = true) : z7 w n = n % 2 ^ w.toNat := by
  have F := inP_iff.1 h
  have hk : w.toNat ≤ 16 := by omega
  have hp : (0 : Int) < 2 ^ w.toNat := Int.pow_pos (by decide)
  unfold z7
  rw [if_pos h]
  have e1 : (BitVec.ofInt IntKind.i64.bits (2 ^ w.toNat - 1)).toNat = 2 ^ w.toNat - 1 := by
    have q := pQ hk
    rw [yM omG omG]
    have := yX w.toNat
    omega
  have e2 : (BitVec.ofInt IntKind.i64.bits n &&& BitVec.ofInt IntKind.i64.bits (2 ^ w.toNat - 1)).toNat = (n % 18446744073709551616).toNat % 2 ^ w.toNat := by
    rw [BitVec.toNat_and, e1, qf6, Nat.and_two_pow_sub_one_eq_mod]
  rw [e2]
  have h64 : (2 : Int) ^ w.toNat ∣ 18446744073709551616 := by
    have e : (18446744073709551616 : Int) = 2 ^ w.toNat * 2 ^ (64 - w.toNat) := by
      rw [← Int.pow_add, show w.toNat + (64 - w.toNat) = 64 by omega]; rfl
    rw [e]
    exact Int.dvd_mul_right _ _
  have e3 : (((n % 18446744073709551616).toNat % 2 ^ w.toNat : Nat) : Int) = n % 2 ^ w.toNat := by
    have hn : 0 ≤ n % 18446744073709551616 := Int.emod_nonneg _ (by decide)
    rw [Int.natCast_emod, Int.toNat_of_nonneg hn, xX, Int.emod_emod_of_dvd _ h64]
  rw [e3]
  have h0 : 0 ≤ n % 2 ^ w.toNat := Int.emod_nonneg _ omG
  have h1 : n % 2 ^ w.toNat < 2 ^ w.toNat := Int.emod_lt_of_pos _ hp
  have h2 := pQ hk
  exact wrap_id omG omG
theorem pow_16 {w : Int} (h : inP w 1 16 = true) : (2 : Int) ^ w.toNat ≤ 65536 := by
  have F := inP_iff.1 h
  exact pQ omG
section
variable {w a b c : Int}
theorem both (ha : wordP w a = true) (hb : wordP w b = true) : (wordP w a && wordP w b) = true := by rw [ha, hb]; rfl
theorem b3 (ha : wordP w a = true) (hb : wordP w b = true) : w5 3 w a b = (a + b) % 2 ^ w.toNat := by
  have q1 := k5 ha; have q2 := k5 hb; have q3 := pow_16 q1.1
  unfold w5
  rw [if_pos (both ha hb), if_pos rfl, qd1 q1.1, wrap_id omG omG]
/-! ### laws -/
theorem back (ha : wordP w a = true) : ((a.toNat : Nat) : Int) = a := Int.toNat_of_nonneg (k5 ha).2.1
end
section
variable {σ : ByteArray → Int}
theorem dE {l : List V.Term} {i : Nat} : xAt (u5 σ l) i = evT σ (kAt l i) := by
  by_cases h : i < l.length
  · exact cL h
  · have e1 : kAt l i = K.terms.dflt := by
      unfold kAt
      rw [List.getD_eq_getElem?_getD, List.getElem?_eq_none omG]; rfl
    have e2 : xAt (u5 σ l) i = K.ints.dflt := by
      unfold xAt
      rw [List.getD_eq_getElem?_getD, List.getElem?_eq_none (by rw [bL]; omega)]; rfl
    rw [e1, e2]
    show (0 : Int) = evT σ ⟨0, 0, 0, ByteArray.empty, []⟩
    rw [evT, if_pos rfl]
theorem ev_0 {t : V.Term} (ho : t.op = 0) : evT σ t = t.n := by rw [zB, if_pos ho]
theorem ev_u {t : V.Term} (ho : t.op = 1 ∨ t.op = 2) : evT σ t = aA t.op (k0 t).w (evT σ (k0 t)) := by
  rw [zB, if_neg omG, if_neg omG]
  unfold o5
  rw [if_pos ho, dE]
theorem ev_b {t : V.Term} (ho : 3 ≤ t.op ∧ t.op ≤ 16) : evT σ t = w5 t.op (k0 t).w (evT σ (k0 t)) (evT σ (k1 t)) := by
  rw [zB, if_neg omG, if_neg omG]
  unfold o5
  rw [if_neg omG, if_pos ho, dE, dE]
theorem ev_i {t : V.Term} (ho : t.op = 17) : evT σ t = if evT σ (k0 t) = 1 then evT σ (k1 t) else evT σ (k2 t) := by
  rw [zB, if_neg omG, if_neg omG]
  unfold o5
  rw [if_neg omG, if_neg omG, if_pos ho, dE, dE, dE]
theorem ev_j {t : V.Term} (ho : t.op = 18) : evT σ t = lC (k0 t).w (evT σ (k0 t)) (k1 t).w (evT σ (k1 t)) := by
  rw [zB, if_neg omG, if_neg omG]
  unfold o5
  rw [if_neg omG, if_neg omG, if_neg omG, if_pos ho, dE, dE]
theorem ev_cut {t : V.Term} (ho : t.op = 19) : evT σ t = mD (k0 t).w (evT σ (k0 t)) t.n t.w := by
  rw [zB, if_neg omG, if_neg omG]
  unfold o5
  rw [if_neg omG, if_neg omG, if_neg omG, if_neg omG, if_pos ho, dE]
theorem ev_g {t : V.Term} (ho : t.op = 20 ∨ t.op = 21) : evT σ t = jB (k0 t).w (evT σ (k0 t)) t.w (t.op == 21) := by
  rw [zB, if_neg omG, if_neg omG]
  unfold o5
  rw [if_neg omG, if_neg omG, if_neg omG, if_neg omG, if_neg omG, dE]
structure GT (σ : ByteArray → Int) (t : V.Term) : Prop where
  ok : okT t = true
  gv : wA σ t
theorem GT.k0 {t : V.Term} (h : GT σ t) (ho : 1 ≤ t.op ∧ t.op ≤ 21) : GT σ (k0 t) := ⟨ok0 h.ok ho, fun v hv => h.gv v (tA hv)⟩
theorem GT.k1 {t : V.Term} (h : GT σ t) (ho : 3 ≤ t.op ∧ t.op ≤ 18) : GT σ (k1 t) := ⟨u1 h.ok ho, fun v hv => h.gv v (sE hv)⟩
theorem GT.k2 {t : V.Term} (h : GT σ t) (ho : t.op = 17) : GT σ (k2 t) := ⟨ok2 h.ok ho, fun v hv => h.gv v (iS hv)⟩
variable {t : V.Term}
end
def b6 : List V.Val → ByteArray → Int
  | [], _ => -1
  | x :: l, nm => if x.name = nm then 0 else if b6 l nm < 0 then -1 else b6 l nm + 1
abbrev vAt (l : List V.Val) (i : Nat) : V.Val := l.getD i K.vals.dflt
structure FindI (l : List V.Val) (nm : ByteArray) (i : Nat) : Prop where
  hi : i ≤ l.length
  eq : b6 l nm = if b6 (l.drop i) nm < 0 then -1 else i + b6 (l.drop i) nm
theorem dT : ∀ (l : List V.Val) (nm : ByteArray), -1 ≤ b6 l nm ∧ b6 l nm < l.length
  | [], _ => ⟨by rw [b6]; decide, by rw [b6]; decide⟩
  | x :: l, nm => by
    have := dT l nm
    rw [b6, List.length_cons]
    split
    · omega
    · split <;> omega
section
variable {l : List V.Val} {nm : ByteArray} {i : Nat}
theorem find_0 : FindI l nm 0 := ⟨Nat.zero_le _, by have := dT l nm; rw [List.drop_zero]; split <;> omega⟩
theorem vdrop (h : (i : Int) < l.length) : l.drop i = vAt l i :: l.drop (i + 1) := by
  have hi : i < l.length := by omega
  rw [List.drop_eq_getElem_cons hi]
  congr 1
  rw [vAt, List.getD_eq_getElem?_getD, List.getElem?_eq_getElem hi]; rfl
theorem qb1 (h : FindI l nm i) (hl : (i : Int) < l.length) (e : (vAt l i).name = nm) : b6 l nm = i := by
  rw [h.eq, vdrop hl, b6, if_pos e, if_neg omG]; omega
theorem find_s (h : FindI l nm i) (hl : (i : Int) < l.length) (e : ¬ (vAt l i).name = nm) : FindI l nm (i + 1) := by
  refine ⟨by omega, ?_⟩
  have q := h.eq
  rw [vdrop hl, b6, if_neg e] at q
  rw [q]
  split
  · rw [if_pos (by decide)]
  · rw [if_neg omG]; omega
theorem qb2 (h : FindI l nm i) (hl : ¬ (i : Int) < l.length) : b6 l nm = -1 := by
  rw [h.eq, List.drop_eq_nil_of_le omG, b6]; rfl
end
structure VOk (L : List V.Val) (σ : ByteArray → Int) (t : V.Term) : Prop where
  h : ∀ v, v ∈ varsT t → 0 ≤ b6 L v.1 ∧ (vAt L (b6 L v.1).toNat).w = v.2 ∧ (vAt L (b6 L v.1).toNat).n = σ v.1
theorem VOk.kid {L : List V.Val} {σ : ByteArray → Int} {t : V.Term} (h : VOk L σ t) (i : Nat) : VOk L σ (kAt t.kids i) := ⟨fun v hv => h.h v (mK hv)⟩
theorem VOk.var {L : List V.Val} {σ : ByteArray → Int} {t : V.Term} (h : VOk L σ t) (ho : t.op = 22) : 0 ≤ b6 L t.name ∧ (vAt L (b6 L t.name).toNat).w = t.w ∧ (vAt L (b6 L t.name).toNat).n = σ t.name :=
  h.h (t.name, t.w) (by rw [gP, if_pos ho]; exact List.mem_cons_self ..)
def u7 (w : Int) (l : List Int) (k : Nat) : List V.Val := (List.range k).map fun (j : Nat) => ⟨b5 (j : Int), w, l.getD j 0⟩
theorem valsTo_s {w : Int} {l : List Int} {k : Nat} : u7 w l (k + 1) = u7 w l k ++ [⟨b5 k, w, l.getD k 0⟩] := by
  unfold u7
  rw [List.range_succ, List.map_append]; rfl
theorem lE {w : Int} {l : List Int} {k : Nat} : (u7 w l k).length = k := by
  unfold u7; rw [List.length_map, List.length_range]
theorem find_in {w : Int} {l : List Int} {k n : Nat} (hk : k < n) (hn : n ≤ 3) : b6 (u7 w l n) (b5 k) = k ∧ vAt (u7 w l n) k = ⟨b5 k, w, l.getD k 0⟩ := by
  have : (n = 1 ∧ k = 0) ∨ (n = 2 ∧ k = 0) ∨ (n = 2 ∧ k = 1) ∨ (n = 3 ∧ k = 0) ∨ (n = 3 ∧ k = 1) ∨ (n = 3 ∧ k = 2) := by omega
  have e01 : ¬ b5 0 = b5 1 := by decide
  have e02 : ¬ b5 0 = b5 2 := by decide
  have e12 : ¬ b5 1 = b5 2 := by decide
  rcases this with ⟨rfl, rfl⟩ | ⟨rfl, rfl⟩ | ⟨rfl, rfl⟩ | ⟨rfl, rfl⟩ | ⟨rfl, rfl⟩ | ⟨rfl, rfl⟩
  all_goals refine ⟨?_, rfl⟩
  · show b6 [⟨b5 0, w, l.getD 0 0⟩] (b5 0) = 0
    rw [b6, if_pos rfl]
  · show b6 [⟨b5 0, w, l.getD 0 0⟩, ⟨b5 1, w, l.getD 1 0⟩] (b5 0) = 0
    rw [b6, if_pos rfl]
  · show b6 [⟨b5 0, w, l.getD 0 0⟩, ⟨b5 1, w, l.getD 1 0⟩] (b5 1) = 1
    rw [b6, if_neg e01, b6, if_pos rfl]; rfl
  · show b6 [⟨b5 0, w, l.getD 0 0⟩, ⟨b5 1, w, l.getD 1 0⟩, ⟨b5 2, w, l.getD 2 0⟩] (b5 0) = 0
    rw [b6, if_pos rfl]
  · show b6 [⟨b5 0, w, l.getD 0 0⟩, ⟨b5 1, w, l.getD 1 0⟩, ⟨b5 2, w, l.getD 2 0⟩] (b5 1) = 1
    rw [b6, if_neg e01, b6, if_pos rfl]; rfl
  · show b6 [⟨b5 0, w, l.getD 0 0⟩, ⟨b5 1, w, l.getD 1 0⟩, ⟨b5 2, w, l.getD 2 0⟩] (b5 2) = 2
    rw [b6, if_neg e02, b6, if_neg e12, b6, if_pos rfl]; rfl
theorem tB {p : V.Prog} {l : List Int} (h : n6 p l = true) : y4 p = true ∧ InOk p l := by
  unfold n6 at h
  simp only [Bool.and_eq_true, beq_iff_eq, List.all_eq_true] at h
  exact ⟨h.1, ⟨h.2.2, h.2.1⟩⟩
theorem Qt.vok {p : V.Prog} {w : Int} {t : V.Term} {l : List Int} (h : Qt p w t) (hp : y4 p = true) (hl : InOk p l) : VOk (u7 p.w l l.length) (u4 l) t := by
  refine ⟨fun v hv => ?_⟩
  obtain ⟨e, k, h0, h1, e2⟩ := h.vs v hv
  have hm := g6 hp
  have hn := hl.len
  obtain ⟨n, rfl⟩ := Int.eq_ofNat_of_zero_le h0
  have hk : n < l.length := by omega
  obtain ⟨q1, q2⟩ := find_in (w := p.w) (l := l) hk omG
  rw [e2, q1, Int.toNat_natCast, q2, nW h0 omG]
  exact ⟨by omega, e.symm, rfl⟩
noncomputable def w9 (l : List Int) : Nat → List (ByteArray × Int)
  | 0 => []
  | k + 1 => t8 (w9 l k) (b5 k) (l.getD k 0)
theorem lD (l : List Int) (s : ByteArray) : mget (w9 l 1) s = if b5 0 = s then some (l.getD 0 0) else none := by
  show mget (t8 [] (b5 0) (l.getD 0 0)) s = _
  rw [eK rfl]; rfl
theorem kG (l : List Int) (s : ByteArray) : mget (w9 l 2) s = if b5 1 = s then some (l.getD 1 0) else mget (w9 l 1) s := by
  show mget (t8 (w9 l 1) (b5 1) (l.getD 1 0)) s = _
  rw [eK]
  rw [lD, if_neg (by decide)]
theorem jO (l : List Int) (s : ByteArray) : mget (w9 l 3) s = if b5 2 = s then some (l.getD 2 0) else mget (w9 l 2) s := by
  show mget (t8 (w9 l 2) (b5 2) (l.getD 2 0)) s = _
  rw [eK]
  rw [kG, if_neg (by decide), lD, if_neg (by decide)]
def sM (m : List (ByteArray × Int)) (s : ByteArray) : Int := (mget m s).getD 0
theorem env_sig {l : List Int} (h : l.length ≤ 3) : sM (w9 l l.length) = u4 l := by
  funext s
  have g0 : ∀ k : Nat, l.length ≤ k → l.getD k 0 = 0 := by
    intro k hk
    rw [List.getD_eq_getElem?_getD, List.getElem?_eq_none hk]; rfl
  have e01 : ¬ b5 0 = b5 1 := by decide
  have e02 : ¬ b5 0 = b5 2 := by decide
  have e12 : ¬ b5 1 = b5 2 := by decide
  have hn : l.length = 0 ∨ l.length = 1 ∨ l.length = 2 ∨ l.length = 3 := by omega
  unfold sM u4
  by_cases c0 : s = b5 0
  · subst c0
    rw [if_pos rfl]
    rcases hn with n | n | n | n <;> rw [n]
    · exact (g0 0 omG).symm
    · rw [lD, if_pos rfl]; rfl
    · rw [kG, if_neg (fun e => e01 e.symm), lD, if_pos rfl]; rfl
    · rw [jO, if_neg (fun e => e02 e.symm), kG, if_neg (fun e => e01 e.symm), lD, if_pos rfl]; rfl
  rw [if_neg c0]
  by_cases c1 : s = b5 1
  · subst c1
    rw [if_pos rfl]
    rcases hn with n | n | n | n <;> rw [n]
    · exact (g0 1 omG).symm
    · rw [lD, if_neg e01]; exact (g0 1 omG).symm
    · rw [kG, if_pos rfl]; rfl
    · rw [jO, if_neg (fun e => e12 e.symm), kG, if_pos rfl]; rfl
  rw [if_neg c1]
  by_cases c2 : s = b5 2
  · subst c2
    rw [if_pos rfl]
    rcases hn with n | n | n | n <;> rw [n]
    · exact (g0 2 omG).symm
    · rw [lD, if_neg e02]; exact (g0 2 omG).symm
    · rw [kG, if_neg e12, lD, if_neg e02]; exact (g0 2 omG).symm
    · rw [jO, if_pos rfl]; rfl
  rw [if_neg c2]
  rcases hn with n | n | n | n <;> rw [n]
  · rfl
  · rw [lD, if_neg (fun e => c0 e.symm)]; rfl
  · rw [kG, if_neg (fun e => c1 e.symm), lD, if_neg (fun e => c0 e.symm)]; rfl
  · rw [jO, if_neg (fun e => c2 e.symm), kG, if_neg (fun e => c1 e.symm), lD, if_neg (fun e => c0 e.symm)]; rfl
set_option maxRecDepth 100000
set_option maxHeartbeats 40000000
structure IHEv (m : List (ByteArray × Int)) (z : Bool) (t : V.Term) : Prop where
  call : ∀ (op w n : Int) (nm : ByteArray) (ks : List V.Term), okT ⟨op, w, n, nm, ks⟩ = true → sizeT ⟨op, w, n, nm, ks⟩ < sizeT t →
    CallsG Tryz.prog 68 [.agg [.dat (.i op), .dat (.i w), .dat (.i n), .dat (.str nm), .dat (.seq .terms ks)], .mp 0] [.mp m z] 1 (fun res B => res = .dat (.i (evT (sM m) ⟨op, w, n, nm, ks⟩)) ∧ B = [.mp m z])
theorem ih_ev {m : List (ByteArray × Int)} {z : Bool} {t : V.Term} (ih : IHEv m z t) {op w n : Int} {nm : ByteArray} {ks : List V.Term} (ht : okT ⟨op, w, n, nm, ks⟩ = true) (hs : sizeT ⟨op, w, n, nm, ks⟩ < sizeT t) :
    CallsG Tryz.prog 68 [.agg [.dat (.i op), .dat (.i w), .dat (.i n), .dat (.str nm), .dat (.seq .terms ks)], .mp 0] [.mp m z] 1 (fun res B => res = .dat (.i (evT (sM m) ⟨op, w, n, nm, ks⟩)) ∧ B = [.mp m z]) := ih.call op w n nm ks ht hs
theorem sk_0 {t : V.Term} (ht : okT t = true) (ho : 1 ≤ t.op ∧ t.op ≤ 21) : sizeT (k0 t) < sizeT t := by
  by_cases c : t.op = 17
  · have := sz_i ht c; omega
  · by_cases c2 : (3 ≤ t.op ∧ t.op ≤ 16) ∨ t.op = 18
    · have := yG ht c2; omega
    · have := mE ht omG; omega
theorem sk_1 {t : V.Term} (ht : okT t = true) (ho : 3 ≤ t.op ∧ t.op ≤ 18) : sizeT (k1 t) < sizeT t := by
  by_cases c : t.op = 17
  · have := sz_i ht c; omega
  · have := yG ht omG; omega
theorem sk_2 {t : V.Term} (ht : okT t = true) (ho : t.op = 17) : sizeT (k2 t) < sizeT t := by
  have := sz_i ht ho; omega
section
variable {σ : ByteArray → Int} {t : V.Term}
theorem ei_v (ho : t.op = 22) : σ t.name = evT σ t := by rw [zB, if_neg omG, if_pos ho]
theorem ei_1 (ho : t.op = 17) (h : evT σ (k0 t) = 1) : evT σ (k1 t) = evT σ t := by rw [ev_i ho, if_pos h]
theorem ei_2 (ho : t.op = 17) (h : ¬ evT σ (k0 t) = 1) : evT σ (k2 t) = evT σ t := by rw [ev_i ho, if_neg h]
end
theorem i_ev0 (t : V.Term) (m : List (ByteArray × Int)) (z : Bool) (ih : IHEv m z t) (ht : okT t = true) : CallsG Tryz.prog 68 [.agg [.dat (.i t.op), .dat (.i t.w), .dat (.i t.n), .dat (.str t.name), .dat (.seq .terms t.kids)], .mp 0] [.mp m z] 1 (fun res B => res = .dat (.i (evT (sM m) t)) ∧ B = [.mp m z]) := by
  refine oG Tryz.func68 ⟨?_⟩
  repeat' (first | ((with_reducible refine fun (K1 : KT) hK => ?_); refine m4 ⟨?_⟩) | ((with_reducible show K1 _ _); subst hK; conv => whnf) | (with_reducible exact rfl) | refine st0 ⟨?_⟩ | ((with_reducible refine SplS.mk (fun h => ?_) (fun h => ?_)) <;> first | exact f5 | ((fail_if_success (have _x : @Eq Bool _ _ := h)); subst h; conv => whnf) | (conv => whnf)) | (with_reducible first | refine bnd2 ?_ ?_ | refine bnd2' ?_ ?_ | refine bndN ?_ ?_) | ((with_reducible refine and_of ?_ ?_); conv => whnf) | ((with_reducible refine a6 (g := 68) ?_); refine ⟨_, _, ih_ev (ih := by assumption) (ht := ?_) (hs := ?_) .., zV ?_⟩; rotate_right; conv => whnf) | ((with_reducible first | refine n0 (g := 106) ?_ | show Exists _); refine ⟨_, qbe .., rfl, ?_⟩; rotate_right; conv => whnf) | ((with_reducible first | refine n0 (g := 107) ?_ | show Exists _); refine ⟨_, qbc (hl := ?_) .., rfl, ?_⟩; rotate_right; conv => whnf) | ((with_reducible first | refine n0 (g := 108) ?_ | show Exists _); refine ⟨_, qa6 .., rfl, ?_⟩; rotate_right; conv => whnf) | ((with_reducible first | refine n0 (g := 109) ?_ | show Exists _); refine ⟨_, qa9 .., rfl, ?_⟩; rotate_right; conv => whnf) | ((with_reducible first | refine n0 (g := 110) ?_ | show Exists _); refine ⟨_, tC .., rfl, ?_⟩; rotate_right; conv => whnf) | (intro h; conv => whnf))
  all_goals repeat clear hK K1
  all_goals (try simp only [V.Term.eta] at *)
  all_goals (have l1 := jC ht; have l2 := dB ht; have l3 := rA ht; have lo := vM ht; first | omega | exact rfl | exact ok0 ht omG | exact u1 ht omG | exact ok2 ht omG | exact sk_0 ht omG | exact sk_1 ht omG | exact sk_2 ht omG | (have f := nC ht omG; have q := k8 (ok0 ht omG); have q2 := k8 ht; omega) | exact bF (ev_0 (σ := sM m) (t := t) asmR).symm | exact bF (ei_v (σ := sM m) (t := t) asmR) | exact bF (ei_1 (σ := sM m) (t := t) asmR (by assumption)) | exact bF (ei_2 (σ := sM m) (t := t) asmR (by assumption)) | exact bF (ev_u (σ := sM m) (t := t) omG).symm | exact bF (ev_b (σ := sM m) (t := t) omG).symm | exact bF (ev_j (σ := sM m) (t := t) omG).symm | exact bF (ev_cut (σ := sM m) (t := t) omG).symm | exact bF (ev_g (σ := sM m) (t := t) omG).symm | skip)
theorem nS (op w n : Int) (nm : ByteArray) (ks : List V.Term) (m : List (ByteArray × Int)) (z : Bool) (ht : okT ⟨op, w, n, nm, ks⟩ = true) :
    CallsG Tryz.prog 68 [.agg [.dat (.i op), .dat (.i w), .dat (.i n), .dat (.str nm), .dat (.seq .terms ks)], .mp 0] [.mp m z] 1 (fun res B => res = .dat (.i (evT (sM m) ⟨op, w, n, nm, ks⟩)) ∧ B = [.mp m z]) := by
  have key : ∀ (k : Nat) (t : V.Term), sizeT t < k → okT t = true → CallsG Tryz.prog 68 [.agg [.dat (.i t.op), .dat (.i t.w), .dat (.i t.n), .dat (.str t.name), .dat (.seq .terms t.kids)], .mp 0] [.mp m z] 1 (fun res B => res = .dat (.i (evT (sM m) t)) ∧ B = [.mp m z]) := by
    intro k
    induction k with
    | zero => intro t h; omega
    | succ k ih =>
      intro t h ht
      exact i_ev0 t m z ⟨fun op w n nm ks ht' hs => ih ⟨op, w, n, nm, ks⟩ omG ht'⟩ ht
  exact key _ ⟨op, w, n, nm, ks⟩ (Nat.lt_succ_self _) ht
end Vg
