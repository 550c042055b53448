/- Numbers and words are read: contracts of the reference's functions. Condition: texts are no longer than the law lets through. -/
import Derived.Test.YtcdepophgnlphaaDoorParI
namespace Vg
open Go Go.Proofs
set_option maxRecDepth 100000
set_option maxHeartbeats 40000000
/-! ### the reference reads numbers -/
def uA (l : List UInt8) : Nat := l.foldl (fun a b => a * 10 + (b.toNat - 48)) 0
theorem yK (l : List UInt8) (b : UInt8) : uA (l ++ [b]) = uA l * 10 + (b.toNat - 48) := by simp [uA, List.foldl_append]
theorem mV : ∀ (r : List UInt8) (a : Nat), a ≤ r.foldl (fun a b => a * 10 + (b.toNat - 48)) a
  | [], a => Nat.le_refl _
  | b :: r, a => Nat.le_trans (show a ≤ a * 10 + (b.toNat - 48) by omega) (mV r _)
theorem valN_le (l r : List UInt8) : uA l ≤ uA (l ++ r) := by
  simp only [uA, List.foldl_append]
  exact mV r _
theorem pP : ∀ u : Nat, uA (Lib.decDigits u) = u := by
  intro u
  induction u using Nat.strongRecOn with
  | ind u ih =>
    rw [Lib.decDigits]
    split
    · rename_i h
      show 0 * 10 + ((UInt8.ofNat (48 + u)).toNat - 48) = u
      rw [dF h]; omega
    · rename_i h
      rw [yK, ih (u / 10) omG, dF omG]; omega
def e8 (s : ByteArray) : Bool := decide (0 < s.size ∧ y9 s 0 = 45)
def tOf (s : ByteArray) : ByteArray := if e8 s = true then s.extract 1 s.size else s
theorem lJ {s : ByteArray} (h : ¬ (s.size : Int) > 0) : e8 s = false := decide_eq_false (fun k => h omG)
theorem hM {s : ByteArray} (h : ¬ ((s.data.toList.getD (Int.toNat 0) 0).toNat : Int) = 45) : e8 s = false := decide_eq_false (fun k => h k.2)
theorem gM {s : ByteArray} (h0 : (s.size : Int) > 0) (h : ((s.data.toList.getD (Int.toNat 0) 0).toNat : Int) = 45) : e8 s = true := decide_eq_true ⟨by omega, h⟩
theorem pI {s : ByteArray} (h : e8 s = true) : tOf s = s.extract 1 s.size := if_pos h
theorem yF {s : ByteArray} (h : e8 s = false) : tOf s = s := if_neg (by rw [h]; decide)
structure NumT (s : ByteArray) (m : Int) : Prop where
  lo : -9223372036854775808 ≤ m
  hi : m ≤ 9223372036854775807
  neg : e8 s = decide (m < 0)
  eq : (tOf s).data.toList = Lib.decDigits m.natAbs
theorem dD {s : ByteArray} {m : Int} (h : NumOf s m) : NumT s m := by
  have e : s.data.toList = Lib.itoa m := by rw [← h.eq]; simp [u2]
  by_cases hm : m < 0
  · have e1 : s.data.toList = 45 :: Lib.decDigits m.natAbs := by rw [e]; unfold Lib.itoa; rw [if_pos hm]
    have hz : 0 < s.size := by
      have : s.data.toList.length = s.size := rfl
      rw [e1] at this; simp at this; omega
    have hn : e8 s = true := decide_eq_true ⟨hz, by unfold y9; rw [e1]; rfl⟩
    refine ⟨h.lo, h.hi, by rw [hn, decide_eq_true hm], ?_⟩
    rw [pI hn, Lib.extract_to_end, e1]; rfl
  · have e1 : s.data.toList = Lib.decDigits m.toNat := by rw [e]; unfold Lib.itoa; rw [if_neg hm]
    have hn : e8 s = false := decide_eq_false (fun k => by
      have h2 := k.2
      unfold y9 at h2
      rw [e1] at h2
      cases e2 : Lib.decDigits m.toNat with
      | nil => exact rH _ e2
      | cons c r =>
        rw [e2] at h2
        have := lC m.toNat c (by rw [e2]; simp)
        simp at h2
        omega)
    refine ⟨h.lo, h.hi, by rw [hn, decide_eq_false hm], ?_⟩
    rw [yF hn, e1]; congr 1; omega
theorem zZ {s : ByteArray} {m : Int} (h : NumT s m) : 1 ≤ (tOf s).size ∧ (tOf s).size ≤ 19 := by
  have : (tOf s).data.toList.length = (tOf s).size := rfl
  rw [h.eq] at this
  have h1 := eK m.natAbs
  have h2 := sH 18 m.natAbs (by have := h.lo; have := h.hi; omega)
  omega
theorem zI {s : ByteArray} (h : (tOf s).size < 1 ∨ 19 < (tOf s).size) : s4 s = (0, false) := aC fun n hn => by have := zZ (dD hn); omega
theorem pf_1 {s : ByteArray} (hn : e8 s = true) (h : ((s.extract (Int.toNat 1) s.size).size : Int) < 1) : s4 s = (0, false) := zI (.inl (by rw [pI hn]; have : ((s.extract 1 s.size).size : Int) < 1 := h; omega))
theorem pf_2 {s : ByteArray} (hn : e8 s = true) (h : ((s.extract (Int.toNat 1) s.size).size : Int) > 19) : s4 s = (0, false) := zI (.inr (by rw [pI hn]; have : ((s.extract 1 s.size).size : Int) > 19 := h; omega))
theorem pf_3 {s : ByteArray} (hn : e8 s = false) (h : (s.size : Int) < 1) : s4 s = (0, false) := zI (.inl (by rw [yF hn]; omega))
theorem pf_4 {s : ByteArray} (hn : e8 s = false) (h : (s.size : Int) > 19) : s4 s = (0, false) := zI (.inr (by rw [yF hn]; omega))
theorem tOf_le (s : ByteArray) : (tOf s).size ≤ s.size := by
  unfold tOf
  split
  · rw [ByteArray.size_extract]; omega
  · exact Nat.le_refl _
def dgt (t : ByteArray) (i : Nat) : Int := ((t.data.toList.getD i 0).toNat : Int) - 48
structure DigI (t : ByteArray) (i : Nat) (n : Int) : Prop where
  le : i ≤ t.size
  lo : -9223372036854775808 ≤ n
  val : n = -((uA (t.data.toList.take i) : Nat) : Int)
theorem digI_0 (t : ByteArray) : DigI t 0 0 := ⟨Nat.zero_le _, by omega, by simp [uA]⟩
theorem dQ {t : ByteArray} {i : Nat} (h : i < t.size) : t.data.toList.take (i + 1) = t.data.toList.take i ++ [t.data.toList.getD i 0] := by
  have hl : i < t.data.toList.length := h
  rw [List.take_add_one, List.getElem?_eq_getElem hl, List.getD_eq_getElem?_getD, List.getElem?_eq_getElem hl]; rfl
theorem wN (t : ByteArray) (i : Nat) : IntKind.i64.wrap (IntKind.i64.wrap ((t.data.toList.getD (i : Int).toNat 0).toNat : Int) - 48) = dgt t i := by
  rw [Int.toNat_natCast]
  unfold dgt
  have := (t.data.toList.getD i 0).toNat_lt
  generalize (t.data.toList.getD i 0).toNat = x at this
  rw [g4 (n := (x : Int)) omG omG, g4 omG omG]
theorem cS {s : ByteArray} {m : Int} (h : NumT s m) {i : Nat} (hi : i < (tOf s).size) : 0 ≤ dgt (tOf s) i ∧ dgt (tOf s) i ≤ 9 ∧ 10 * (uA ((tOf s).data.toList.take i) : Int) + dgt (tOf s) i ≤ m.natAbs := by
  have hl : i < (tOf s).data.toList.length := hi
  have e : (tOf s).data.toList.getD i 0 = (tOf s).data.toList[i] := by rw [List.getD_eq_getElem?_getD, List.getElem?_eq_getElem hl]; rfl
  have hb := lC m.natAbs ((tOf s).data.toList.getD i 0) (by rw [e, ← h.eq]; exact List.getElem_mem _)
  have hv := valN_le ((tOf s).data.toList.take (i + 1)) ((tOf s).data.toList.drop (i + 1))
  rw [List.take_append_drop, h.eq, pP, ← h.eq, dQ hi, yK] at hv
  unfold dgt
  omega
theorem pf_5 {s : ByteArray} {i : Nat} (hi : (i : Int) < (tOf s).size) (h : inP (IntKind.i64.wrap (IntKind.i64.wrap (((tOf s).data.toList.getD (i : Int).toNat 0).toNat : Int) - 48)) 0 9 = false) : s4 s = (0, false) := aC fun n hn => by
  have := cS (dD hn) (i := i) omG
  rw [wN] at h
  simp [inP] at h
  omega
theorem td_ge {a : Int} (h : a ≤ 0) : a.tdiv 10 = -((-a) / 10) := by
  obtain ⟨u, rfl⟩ : ∃ u : Nat, a = -(u : Int) := ⟨a.natAbs, by omega⟩
  rw [Int.neg_tdiv, Int.neg_neg, Int.tdiv_eq_ediv_of_nonneg omG]
theorem pf_6 {s : ByteArray} {i : Nat} {n : Int} (hI : DigI (tOf s) i n) (hi : (i : Int) < (tOf s).size) (_h : inP (IntKind.i64.wrap (IntKind.i64.wrap (((tOf s).data.toList.getD (i : Int).toNat 0).toNat : Int) - 48)) 0 9 = true)
    (hlt : n < IntKind.i64.wrap ((IntKind.i64.wrap (-9223372036854775808 + IntKind.i64.wrap (IntKind.i64.wrap (((tOf s).data.toList.getD (i : Int).toNat 0).toNat : Int) - 48))).tdiv 10)) : s4 s = (0, false) := aC fun m hm => by
  have k := cS (dD hm) (i := i) omG
  have hl := hm.lo
  have hh := hm.hi
  have hv := hI.val
  rw [wN, g4 (n := -9223372036854775808 + dgt (tOf s) i) omG omG, td_ge omG, g4 omG omG] at hlt
  omega
theorem dig_s {s : ByteArray} {i : Nat} {n : Int} (hI : DigI (tOf s) i n) (hi : (i : Int) < (tOf s).size) (h : inP (IntKind.i64.wrap (IntKind.i64.wrap (((tOf s).data.toList.getD (i : Int).toNat 0).toNat : Int) - 48)) 0 9 = true)
    (hlt : ¬ n < IntKind.i64.wrap ((IntKind.i64.wrap (-9223372036854775808 + IntKind.i64.wrap (IntKind.i64.wrap (((tOf s).data.toList.getD (i : Int).toNat 0).toNat : Int) - 48))).tdiv 10)) :
    DigI (tOf s) (i + 1) (n * 10 - dgt (tOf s) i) ∧ Dat.i (n * 10 - dgt (tOf s) i) = Dat.int .i64 (IntKind.i64.wrap (IntKind.i64.wrap (n * 10) - IntKind.i64.wrap (IntKind.i64.wrap (((tOf s).data.toList.getD (i : Int).toNat 0).toNat : Int) - 48))) := by
  have hv := hI.val
  rw [wN] at h hlt ⊢
  have hd : 0 ≤ dgt (tOf s) i ∧ dgt (tOf s) i ≤ 9 := by simpa [inP] using h
  rw [g4 (n := -9223372036854775808 + dgt (tOf s) i) omG omG, td_ge omG, g4 omG omG] at hlt
  refine ⟨⟨by omega, by omega, ?_⟩, ?_⟩
  · rw [dQ omG, yK]
    unfold dgt at hd ⊢
    omega
  · rw [g4 (n := n * 10) omG omG, g4 omG omG]
theorem vN {s : ByteArray} {i : Nat} {n : Int} (hI : DigI (tOf s) i n) (hi : ¬ (i : Int) < (tOf s).size) {m : Int} (hm : NumOf s m) : n = -(m.natAbs : Int) := by
  have hv := hI.val
  have hle := hI.le
  rw [show i = (tOf s).data.toList.length from by have : (tOf s).data.toList.length = (tOf s).size := rfl; omega, List.take_length, (dD hm).eq, pP] at hv
  exact hv
theorem pf_7 {s : ByteArray} {i : Nat} (hI : DigI (tOf s) i (-9223372036854775808)) (hi : ¬ (i : Int) < (tOf s).size) (hn : e8 s = false) : s4 s = (0, false) := aC fun m hm => by
  have e := vN hI hi hm
  have := (dD hm).neg
  rw [hn] at this
  have : ¬ m < 0 := of_decide_eq_false this.symm
  have := hm.hi
  omega
theorem cF {s : ByteArray} {i : Nat} {n : Int} (hI : DigI (tOf s) i n) (hz : ¬ n = -9223372036854775808) : IntKind.i64.wrap (0 - n) = -n ∧ -9223372036854775808 ≤ -n ∧ -n ≤ 9223372036854775807 := by
  have := hI.lo
  have := hI.val
  rw [g4 omG omG]
  omega
theorem dig_b {s : ByteArray} {i : Nat} {n : Int} (hI : DigI (tOf s) i n) : n ≤ 9223372036854775807 := by have := hI.val; omega
theorem pf_8 {s : ByteArray} {i : Nat} {n : Int} (hI : DigI (tOf s) i n) (hi : ¬ (i : Int) < (tOf s).size) (hn : e8 s = false) (hz : ¬ n = -9223372036854775808) (h : ((u2 (IntKind.i64.wrap (0 - n))).toList == s.toList) = false) : s4 s = (0, false) := aC fun m hm => by
  have e := vN hI hi hm
  have h1 := (dD hm).neg
  rw [hn] at h1
  have h2 : ¬ m < 0 := of_decide_eq_false h1.symm
  rw [(cF hI hz).1, show -n = m from by omega] at h
  exact str_ne h hm.eq
theorem pf_9 {s : ByteArray} {i : Nat} {n : Int} (hI : DigI (tOf s) i n) (hi : ¬ (i : Int) < (tOf s).size) (hn : e8 s = true) (h : ((u2 n).toList == s.toList) = false) : s4 s = (0, false) := aC fun m hm => by
  have e := vN hI hi hm
  have h1 := (dD hm).neg
  rw [hn] at h1
  have h2 : m < 0 := of_decide_eq_true h1.symm
  rw [show n = m from by omega] at h
  exact str_ne h hm.eq
theorem pt_8 {s : ByteArray} {i : Nat} {n : Int} (hI : DigI (tOf s) i n) (hz : ¬ n = -9223372036854775808) (h : ((u2 (IntKind.i64.wrap (0 - n))).toList == s.toList) = true) : s4 s = (IntKind.i64.wrap (0 - n), true) := by
  have r := cF hI hz
  exact aJ ⟨by omega, by omega, str_eq h⟩
theorem pt_9 {s : ByteArray} {i : Nat} {n : Int} (hI : DigI (tOf s) i n) (h : ((u2 n).toList == s.toList) = true) : s4 s = (n, true) := aJ ⟨hI.lo, dig_b hI, str_eq h⟩
theorem dig_mu {t : ByteArray} {i : Nat} (h : (i : Int) < t.size) : t.size - (i + 1) < t.size - i := by omega
theorem negD_f {s : ByteArray} (h0 : (s.size : Int) > 0) : Dat.bool (e8 s) = Dat.bool (((s.data.toList.getD (Int.toNat 0) 0).toNat : Int) == 45) := by
  refine congrArg Dat.bool ?_
  unfold e8
  have e : ((((s.data.toList.getD (Int.toNat 0) 0).toNat : Int) == 45) = true) ↔ (0 < s.size ∧ y9 s 0 = 45) := by
    rw [beq_iff_eq]
    exact ⟨fun h => ⟨by omega, h⟩, fun h => h.2⟩
  rw [Bool.eq_iff_iff, e, decide_eq_true_iff]
theorem vQ (s : ByteArray) (hs : s.size ≤ 1048576) : CallsV Tryd.prog 40 [.dat (.str s)] (.tup [.dat (.i (s4 s).1), .dat (.bool (s4 s).2)]) := by
  refine oV Tryd.func40 ⟨?_⟩
  repeat' (first | ((with_reducible refine fun (K1 : KT) hK => ?_); refine g6 ⟨?_⟩) | ((with_reducible show K1 _ _); subst hK; conv => whnf) | (with_reducible exact rfl) | refine f4 ⟨?_⟩ | ((with_reducible refine SplS.mk (fun h => ?_) (fun h => ?_)) <;> first | exact o6 | (subst h; conv => whnf) | (conv => whnf)) | refine g5 ⟨?_⟩ ⟨?_⟩ | (refine Exists.intro ({x : Nat × Int // DigI (tOf s) x.1 x.2}) (Exists.intro (fun ⟨⟨i, n⟩, hI⟩ => x5 Tryd.f40.ntmps [(0, .dat (.str s)), (4, .dat (.bool (e8 s))), (5, .dat (.str (tOf s))), (6, .dat (.i n)), (7, .dat (.i i))] []) (Exists.intro (fun ⟨⟨i, n⟩, hI⟩ => (tOf s).size - i) (Exists.intro ⟨⟨0, 0⟩, digI_0 _⟩ (And.intro (SubP.sub (σ := []) ⟨⟨rfl, rfl, rfl⟩, ⟨j0 ?_, j0 ?_, j0 ?_, j0 ?_, j0 ?_, trivial⟩, trivial⟩) (fun ⟨⟨i, n⟩, hI⟩ => ?_))))); rotate_right; conv => whnf) | (refine Exists.intro (⟨⟨i + 1, n * 10 - dgt (tOf s) i⟩, ?_⟩ : {x : Nat × Int // DigI (tOf s) x.1 x.2}) (And.intro ?_ (SubP.sub (σ := []) ⟨⟨rfl, rfl, rfl⟩, ⟨j0 ?_, j0 ?_, j0 ?_, j0 ?_, j0 ?_, trivial⟩, trivial⟩))) | ((with_reducible first | refine p3 (g := 24) ?_ | show Exists _); refine ⟨_, vC .., rfl, ?_⟩; rotate_right; conv => whnf) | ((with_reducible show Exists _); refine Exists.intro _ (And.intro (ih (_h1 := ?_) (_h2 := ?_) (_h3 := ?_) ..) (And.intro rfl ?_)); rotate_right; conv => whnf) | ((with_reducible first | refine p3 (g := 28) ?_ | show Exists _); refine ⟨_, fZ (hl := ?_) (hh := ?_) .., rfl, ?_⟩; rotate_right; conv => whnf) | (intro h; conv => whnf))
  all_goals repeat clear hK K1
  all_goals first | (with_reducible exact trivial) | (with_reducible assumption) | (exfalso; omega) | omega | (with_reducible exact (dig_s hI asmR asmR asmR).2) | (with_reducible exact negD_f asmR) | exact (dig_s hI asmR asmR asmR).1 | exact dig_mu asmR | (rw [(cF hI asmR).1]; exact (cF hI asmR).2.1) | (rw [(cF hI asmR).1]; exact (cF hI asmR).2.2) | exact hI.lo | exact dig_b hI | exact di_eq (rfl : ((0 : Nat) : Int) = 0) | exact di_eq (by have q := tOf_le s; rw [g4 omG omG]; omega) | exact db_eq (lJ asmR) | exact congrArg Dat.str (pI (gM asmR asmR)) | exact congrArg Dat.str (yF (hM asmR)) | exact congrArg Dat.str (yF (lJ asmR)) | (have q : s4 s = (0, false) := (by first | exact pf_1 (gM asmR asmR) asmR | exact pf_2 (gM asmR asmR) asmR | exact pf_3 (hM asmR) asmR | exact pf_4 (hM asmR) asmR | exact pf_3 (lJ asmR) asmR | exact pf_4 (lJ asmR) asmR | exact pf_5 asmR asmR | exact pf_6 hI asmR asmR asmR | exact pf_7 hI asmR asmR | exact pf_8 hI asmR asmR asmR asmR | exact pf_9 hI asmR asmR asmR); first | exact di_eq (by rw [q]) | exact db_eq (by rw [q])) | exact di_eq (by rw [pt_8 hI asmR asmR]) | exact db_eq (by rw [pt_8 hI asmR asmR]) | exact di_eq (by rw [pt_9 hI asmR]) | exact db_eq (by rw [pt_9 hI asmR]) | skip
def nuX0 (s : ByteArray) : ByteArray := if 0 < s.size ∧ y9 s 0 = 114 then s.extract 1 s.size else s
noncomputable def nA (s : ByteArray) : Int := (s4 (nuX0 s)).1
end Vg
