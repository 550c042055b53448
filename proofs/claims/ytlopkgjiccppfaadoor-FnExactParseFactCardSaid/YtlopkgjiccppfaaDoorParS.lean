/- Numbers and words are read: contracts of the reference's functions. Condition: texts are no longer than the law lets through. -/
import Derived.Test.YtlopkgjiccppfaaDoorParI
namespace Vg
open Go Go.Proofs
/-! ### the reference reads numbers -/
def valN (l : List UInt8) : Nat := l.foldl (fun a b => a * 10 + (b.toNat - 48)) 0
theorem valN_snoc (l : List UInt8) (b : UInt8) : valN (l ++ [b]) = valN l * 10 + (b.toNat - 48) := by simp [valN, List.foldl_append]
theorem fold_le : ∀ (r : List UInt8) (a : Nat), a ≤ r.foldl (fun a b => a * 10 + (b.toNat - 48)) a
  | [], a => Nat.le_refl _
  | b :: r, a => Nat.le_trans (show a ≤ a * 10 + (b.toNat - 48) by omega) (fold_le r _)
theorem valN_le (l r : List UInt8) : valN l ≤ valN (l ++ r) := by
  simp only [valN, List.foldl_append]
  exact fold_le r _
theorem valN_dec : ∀ u : Nat, valN (Lib.decDigits u) = u := by
  intro u
  induction u using Nat.strongRecOn with
  | ind u ih =>
    rw [Lib.decDigits]
    split
    · rename_i h
      show 0 * 10 + ((UInt8.ofNat (48 + u)).toNat - 48) = u
      rw [dig_byte h]; omega
    · rename_i h
      rw [valN_snoc, ih (u / 10) (by omega), dig_byte (by omega)]; omega
def negB (s : ByteArray) : Bool := decide (0 < s.size ∧ bAt s 0 = 45)
def tOf (s : ByteArray) : ByteArray := if negB s = true then s.extract 1 s.size else s
theorem neg_0 {s : ByteArray} (h : ¬ (s.size : Int) > 0) : negB s = false := decide_eq_false (fun k => h (by omega))
theorem neg_f {s : ByteArray} (h : ¬ ((s.data.toList.getD (Int.toNat 0) 0).toNat : Int) = 45) : negB s = false := decide_eq_false (fun k => h k.2)
theorem neg_t {s : ByteArray} (h0 : (s.size : Int) > 0) (h : ((s.data.toList.getD (Int.toNat 0) 0).toNat : Int) = 45) : negB s = true := decide_eq_true ⟨by omega, h⟩
theorem tOf_t {s : ByteArray} (h : negB s = true) : tOf s = s.extract 1 s.size := if_pos h
theorem tOf_f {s : ByteArray} (h : negB s = false) : tOf s = s := if_neg (by rw [h]; decide)
structure NumT (s : ByteArray) (m : Int) : Prop where
  lo : -9223372036854775808 ≤ m
  hi : m ≤ 9223372036854775807
  neg : negB s = decide (m < 0)
  eq : (tOf s).data.toList = Lib.decDigits m.natAbs
theorem numT {s : ByteArray} {m : Int} (h : NumOf s m) : NumT s m := by
  have e : s.data.toList = Lib.itoa m := by rw [← h.eq]; simp [itoaS]
  by_cases hm : m < 0
  · have e1 : s.data.toList = 45 :: Lib.decDigits m.natAbs := by rw [e]; unfold Lib.itoa; rw [if_pos hm]
    have hz : 0 < s.size := by
      have : s.data.toList.length = s.size := rfl
      rw [e1] at this; simp at this; omega
    have hn : negB s = true := decide_eq_true ⟨hz, by unfold bAt; rw [e1]; rfl⟩
    refine ⟨h.lo, h.hi, by rw [hn, decide_eq_true hm], ?_⟩
    rw [tOf_t hn, Lib.extract_to_end, e1]; rfl
  · have e1 : s.data.toList = Lib.decDigits m.toNat := by rw [e]; unfold Lib.itoa; rw [if_neg hm]
    have hn : negB s = false := decide_eq_false (fun k => by
      have h2 := k.2
      unfold bAt at h2
      rw [e1] at h2
      cases e2 : Lib.decDigits m.toNat with
      | nil => exact dig_ne _ e2
      | cons c r =>
        rw [e2] at h2
        have := dig_all m.toNat c (by rw [e2]; simp)
        simp at h2
        omega)
    refine ⟨h.lo, h.hi, by rw [hn, decide_eq_false hm], ?_⟩
    rw [tOf_f hn, e1]; congr 1; omega
theorem numT_len {s : ByteArray} {m : Int} (h : NumT s m) : 1 ≤ (tOf s).size ∧ (tOf s).size ≤ 19 := by
  have : (tOf s).data.toList.length = (tOf s).size := rfl
  rw [h.eq] at this
  have h1 := dig_pos m.natAbs
  have h2 := dig_len 18 m.natAbs (by have := h.lo; have := h.hi; omega)
  omega
theorem pf_len {s : ByteArray} (h : (tOf s).size < 1 ∨ 19 < (tOf s).size) : parseI s = (0, false) := parseI_no fun n hn => by have := numT_len (numT hn); omega
theorem pf_1 {s : ByteArray} (hn : negB s = true) (h : ((s.extract (Int.toNat 1) s.size).size : Int) < 1) : parseI s = (0, false) := pf_len (.inl (by rw [tOf_t hn]; have : ((s.extract 1 s.size).size : Int) < 1 := h; omega))
theorem pf_2 {s : ByteArray} (hn : negB s = true) (h : ((s.extract (Int.toNat 1) s.size).size : Int) > 19) : parseI s = (0, false) := pf_len (.inr (by rw [tOf_t hn]; have : ((s.extract 1 s.size).size : Int) > 19 := h; omega))
theorem pf_3 {s : ByteArray} (hn : negB s = false) (h : (s.size : Int) < 1) : parseI s = (0, false) := pf_len (.inl (by rw [tOf_f hn]; omega))
theorem pf_4 {s : ByteArray} (hn : negB s = false) (h : (s.size : Int) > 19) : parseI s = (0, false) := pf_len (.inr (by rw [tOf_f hn]; omega))
theorem tOf_le (s : ByteArray) : (tOf s).size ≤ s.size := by
  unfold tOf
  split
  · rw [ByteArray.size_extract]; omega
  · exact Nat.le_refl _
def dgt (t : ByteArray) (i : Nat) : Int := ((t.data.toList.getD i 0).toNat : Int) - 48
structure DigI (t : ByteArray) (i : Nat) (n : Int) : Prop where
  le : i ≤ t.size
  lo : -9223372036854775808 ≤ n
  val : n = -((valN (t.data.toList.take i) : Nat) : Int)
theorem digI_0 (t : ByteArray) : DigI t 0 0 := ⟨Nat.zero_le _, by omega, by simp [valN]⟩
theorem take_at {t : ByteArray} {i : Nat} (h : i < t.size) : t.data.toList.take (i + 1) = t.data.toList.take i ++ [t.data.toList.getD i 0] := by
  have hl : i < t.data.toList.length := h
  rw [List.take_add_one, List.getElem?_eq_getElem hl, List.getD_eq_getElem?_getD, List.getElem?_eq_getElem hl]; rfl
theorem dgt_wrap (t : ByteArray) (i : Nat) : IntKind.i64.wrap (IntKind.i64.wrap ((t.data.toList.getD (i : Int).toNat 0).toNat : Int) - 48) = dgt t i := by
  rw [Int.toNat_natCast]
  unfold dgt
  have := (t.data.toList.getD i 0).toNat_lt
  generalize (t.data.toList.getD i 0).toNat = x at this
  rw [wrap_id (n := (x : Int)) (by omega) (by omega), wrap_id (by omega) (by omega)]
theorem numT_at {s : ByteArray} {m : Int} (h : NumT s m) {i : Nat} (hi : i < (tOf s).size) : 0 ≤ dgt (tOf s) i ∧ dgt (tOf s) i ≤ 9 ∧ 10 * (valN ((tOf s).data.toList.take i) : Int) + dgt (tOf s) i ≤ m.natAbs := by
  have hl : i < (tOf s).data.toList.length := hi
  have e : (tOf s).data.toList.getD i 0 = (tOf s).data.toList[i] := by rw [List.getD_eq_getElem?_getD, List.getElem?_eq_getElem hl]; rfl
  have hb := dig_all m.natAbs ((tOf s).data.toList.getD i 0) (by rw [e, ← h.eq]; exact List.getElem_mem _)
  have hv := valN_le ((tOf s).data.toList.take (i + 1)) ((tOf s).data.toList.drop (i + 1))
  rw [List.take_append_drop, h.eq, valN_dec, ← h.eq, take_at hi, valN_snoc] at hv
  unfold dgt
  omega
theorem pf_5 {s : ByteArray} {i : Nat} (hi : (i : Int) < (tOf s).size) (h : inP (IntKind.i64.wrap (IntKind.i64.wrap (((tOf s).data.toList.getD (i : Int).toNat 0).toNat : Int) - 48)) 0 9 = false) : parseI s = (0, false) := parseI_no fun n hn => by
  have := numT_at (numT hn) (i := i) (by omega)
  rw [dgt_wrap] at h
  simp [inP] at h
  omega
theorem td_ge {a : Int} (h : a ≤ 0) : a.tdiv 10 = -((-a) / 10) := by
  obtain ⟨u, rfl⟩ : ∃ u : Nat, a = -(u : Int) := ⟨a.natAbs, by omega⟩
  rw [Int.neg_tdiv, Int.neg_neg, Int.tdiv_eq_ediv_of_nonneg (by omega)]
theorem pf_6 {s : ByteArray} {i : Nat} {n : Int} (hI : DigI (tOf s) i n) (hi : (i : Int) < (tOf s).size) (_h : inP (IntKind.i64.wrap (IntKind.i64.wrap (((tOf s).data.toList.getD (i : Int).toNat 0).toNat : Int) - 48)) 0 9 = true)
    (hlt : n < IntKind.i64.wrap ((IntKind.i64.wrap (-9223372036854775808 + IntKind.i64.wrap (IntKind.i64.wrap (((tOf s).data.toList.getD (i : Int).toNat 0).toNat : Int) - 48))).tdiv 10)) : parseI s = (0, false) := parseI_no fun m hm => by
  have k := numT_at (numT hm) (i := i) (by omega)
  have hl := hm.lo
  have hh := hm.hi
  have hv := hI.val
  rw [dgt_wrap, wrap_id (n := -9223372036854775808 + dgt (tOf s) i) (by omega) (by omega), td_ge (by omega), wrap_id (by omega) (by omega)] at hlt
  omega
theorem dig_s {s : ByteArray} {i : Nat} {n : Int} (hI : DigI (tOf s) i n) (hi : (i : Int) < (tOf s).size) (h : inP (IntKind.i64.wrap (IntKind.i64.wrap (((tOf s).data.toList.getD (i : Int).toNat 0).toNat : Int) - 48)) 0 9 = true)
    (hlt : ¬ n < IntKind.i64.wrap ((IntKind.i64.wrap (-9223372036854775808 + IntKind.i64.wrap (IntKind.i64.wrap (((tOf s).data.toList.getD (i : Int).toNat 0).toNat : Int) - 48))).tdiv 10)) :
    DigI (tOf s) (i + 1) (n * 10 - dgt (tOf s) i) ∧ Dat.i (n * 10 - dgt (tOf s) i) = Dat.int .i64 (IntKind.i64.wrap (IntKind.i64.wrap (n * 10) - IntKind.i64.wrap (IntKind.i64.wrap (((tOf s).data.toList.getD (i : Int).toNat 0).toNat : Int) - 48))) := by
  have hv := hI.val
  rw [dgt_wrap] at h hlt ⊢
  have hd : 0 ≤ dgt (tOf s) i ∧ dgt (tOf s) i ≤ 9 := by simpa [inP] using h
  rw [wrap_id (n := -9223372036854775808 + dgt (tOf s) i) (by omega) (by omega), td_ge (by omega), wrap_id (by omega) (by omega)] at hlt
  refine ⟨⟨by omega, by omega, ?_⟩, ?_⟩
  · rw [take_at (by omega), valN_snoc]
    unfold dgt at hd ⊢
    omega
  · rw [wrap_id (n := n * 10) (by omega) (by omega), wrap_id (by omega) (by omega)]
/-- at the end: the value -/
theorem dig_end {s : ByteArray} {i : Nat} {n : Int} (hI : DigI (tOf s) i n) (hi : ¬ (i : Int) < (tOf s).size) {m : Int} (hm : NumOf s m) : n = -(m.natAbs : Int) := by
  have hv := hI.val
  have hle := hI.le
  rw [show i = (tOf s).data.toList.length from by have : (tOf s).data.toList.length = (tOf s).size := rfl; omega, List.take_length, (numT hm).eq, valN_dec] at hv
  exact hv
theorem pf_7 {s : ByteArray} {i : Nat} (hI : DigI (tOf s) i (-9223372036854775808)) (hi : ¬ (i : Int) < (tOf s).size) (hn : negB s = false) : parseI s = (0, false) := parseI_no fun m hm => by
  have e := dig_end hI hi hm
  have := (numT hm).neg
  rw [hn] at this
  have : ¬ m < 0 := of_decide_eq_false this.symm
  have := hm.hi
  omega
theorem dig_r {s : ByteArray} {i : Nat} {n : Int} (hI : DigI (tOf s) i n) (hz : ¬ n = -9223372036854775808) : IntKind.i64.wrap (0 - n) = -n ∧ -9223372036854775808 ≤ -n ∧ -n ≤ 9223372036854775807 := by
  have := hI.lo
  have := hI.val
  rw [wrap_id (by omega) (by omega)]
  omega
theorem dig_b {s : ByteArray} {i : Nat} {n : Int} (hI : DigI (tOf s) i n) : n ≤ 9223372036854775807 := by have := hI.val; omega
theorem pf_8 {s : ByteArray} {i : Nat} {n : Int} (hI : DigI (tOf s) i n) (hi : ¬ (i : Int) < (tOf s).size) (hn : negB s = false) (hz : ¬ n = -9223372036854775808) (h : ((itoaS (IntKind.i64.wrap (0 - n))).toList == s.toList) = false) : parseI s = (0, false) := parseI_no fun m hm => by
  have e := dig_end hI hi hm
  have h1 := (numT hm).neg
  rw [hn] at h1
  have h2 : ¬ m < 0 := of_decide_eq_false h1.symm
  rw [(dig_r hI hz).1, show -n = m from by omega] at h
  exact str_ne h hm.eq
theorem pf_9 {s : ByteArray} {i : Nat} {n : Int} (hI : DigI (tOf s) i n) (hi : ¬ (i : Int) < (tOf s).size) (hn : negB s = true) (h : ((itoaS n).toList == s.toList) = false) : parseI s = (0, false) := parseI_no fun m hm => by
  have e := dig_end hI hi hm
  have h1 := (numT hm).neg
  rw [hn] at h1
  have h2 : m < 0 := of_decide_eq_true h1.symm
  rw [show n = m from by omega] at h
  exact str_ne h hm.eq
theorem pt_8 {s : ByteArray} {i : Nat} {n : Int} (hI : DigI (tOf s) i n) (hz : ¬ n = -9223372036854775808) (h : ((itoaS (IntKind.i64.wrap (0 - n))).toList == s.toList) = true) : parseI s = (IntKind.i64.wrap (0 - n), true) := by
  have r := dig_r hI hz
  exact parseI_yes ⟨by omega, by omega, str_eq h⟩
theorem pt_9 {s : ByteArray} {i : Nat} {n : Int} (hI : DigI (tOf s) i n) (h : ((itoaS n).toList == s.toList) = true) : parseI s = (n, true) := parseI_yes ⟨hI.lo, dig_b hI, str_eq h⟩
theorem dig_mu {t : ByteArray} {i : Nat} (h : (i : Int) < t.size) : t.size - (i + 1) < t.size - i := by omega
theorem negD_f {s : ByteArray} (h0 : (s.size : Int) > 0) : Dat.bool (negB s) = Dat.bool (((s.data.toList.getD (Int.toNat 0) 0).toNat : Int) == 45) := by
  refine congrArg Dat.bool ?_
  unfold negB
  have e : ((((s.data.toList.getD (Int.toNat 0) 0).toNat : Int) == 45) = true) ↔ (0 < s.size ∧ bAt s 0 = 45) := by
    rw [beq_iff_eq]
    exact ⟨fun h => ⟨by omega, h⟩, fun h => h.2⟩
  rw [Bool.eq_iff_iff, e, decide_eq_true_iff]
set_option maxHeartbeats 2000000 in
set_option maxRecDepth 100000 in
theorem s_ParseInt (s : ByteArray) (hs : s.size ≤ 1048576) : CallsV Tryd.prog 39 [.dat (.str s)] (.tup [.dat (.i (parseI s).1), .dat (.bool (parseI s).2)]) := by
  refine CallsV.of_awp tauOk mixOk Tryd.func39 rfl rfl rfl ?_
  conv => whnf
  repeat' (first
    | ((with_reducible refine Alt.l ?_); conv => whnf)
    | ((with_reducible refine fun (K1 : AX → AState → Prop) hK => ?_); conv => whnf)
    | ((with_reducible show K1 _ _); subst hK; conv => whnf)
    | (with_reducible exact rfl)
    | ((with_reducible refine sp_T ?_); conv => whnf)
    | ((with_reducible refine sp_F ?_); conv => whnf)
    | ((with_reducible refine sp_T' ?_); conv => whnf)
    | ((with_reducible refine sp_F' ?_); conv => whnf)
    | ((with_reducible refine sp_dF ?_ ?_); decide; conv => whnf)
    | ((with_reducible refine sp_dT ?_ ?_); decide; conv => whnf)
    | ((with_reducible refine sp_d (fun h => ?_) (fun h => ?_)) <;> first | contradiction | (subst h; conv => whnf) | (conv => whnf))
    | ((with_reducible refine sp_d' (fun h => ?_) (fun h => ?_)) <;> first | contradiction | (subst h; conv => whnf) | (conv => whnf))
    | ((with_reducible refine sp_eF ?_ ?_); decide; conv => whnf)
    | ((with_reducible refine sp_eT ?_); conv => whnf)
    | ((with_reducible refine sp_e (fun h => ?_) (fun h => ?_)) <;> first | contradiction | (subst h; conv => whnf) | (conv => whnf))
    | ((with_reducible refine sp_e' (fun h => ?_) (fun h => ?_)) <;> first | contradiction | (subst h; conv => whnf) | (conv => whnf))
    | ((with_reducible refine sp_n (fun h => ?_) (fun h => ?_)) <;> first | contradiction | (subst h; conv => whnf) | (conv => whnf))
    | ((with_reducible refine sp_n' (fun h => ?_) (fun h => ?_)) <;> first | contradiction | (subst h; conv => whnf) | (conv => whnf))
    | ((with_reducible refine sp_nb (fun h => ?_) (fun h => ?_)) <;> first | (exact Bool.noConfusion (Eq.trans (Eq.symm h) (show _ = true by with_reducible assumption))) | (exact Bool.noConfusion (Eq.trans (Eq.symm (show _ = false by with_reducible assumption)) h)) | (conv => whnf))
    | ((with_reducible refine sp_nb' (fun h => ?_) (fun h => ?_)) <;> first | (exact Bool.noConfusion (Eq.trans (Eq.symm h) (show _ = true by with_reducible assumption))) | (exact Bool.noConfusion (Eq.trans (Eq.symm (show _ = false by with_reducible assumption)) h)) | (conv => whnf))
    | ((with_reducible refine sp_b (fun h => ?_) (fun h => ?_)) <;> first | (exact Bool.noConfusion (Eq.trans (Eq.symm h) (show _ = true by with_reducible assumption))) | (exact Bool.noConfusion (Eq.trans (Eq.symm (show _ = false by with_reducible assumption)) h)) | (conv => whnf))
    | ((with_reducible refine sp_b' (fun h => ?_) (fun h => ?_)) <;> first | (exact Bool.noConfusion (Eq.trans (Eq.symm h) (show _ = true by with_reducible assumption))) | (exact Bool.noConfusion (Eq.trans (Eq.symm (show _ = false by with_reducible assumption)) h)) | (conv => whnf))
    | (refine ⟨(rfl : nodupB _ = true), rfl, ?_⟩; conv => whnf)
    | (with_reducible refine bnd2 ?_ ?_)
    | (with_reducible refine bnd2' ?_ ?_)
    | (with_reducible refine bndN ?_ ?_)
    | ((with_reducible refine and_of ?_ ?_); conv => whnf)
    | (refine Exists.intro ({x : Nat × Int // DigI (tOf s) x.1 x.2}) (Exists.intro (fun ⟨⟨i, n⟩, hI⟩ => mkS Tryd.f39.ntmps [(0, .dat (.str s)), (4, .dat (.bool (negB s))), (5, .dat (.str (tOf s))), (6, .dat (.i n)), (7, .dat (.i i))] []) (Exists.intro (fun ⟨⟨i, n⟩, hI⟩ => (tOf s).size - i) (Exists.intro ⟨⟨0, 0⟩, digI_0 _⟩ (And.intro (SubP.sub (σ := []) ⟨⟨rfl, rfl, rfl⟩, ⟨(wk_dat ?_), (wk_dat ?_), (wk_dat ?_), (wk_dat ?_), (wk_dat ?_), trivial⟩, trivial⟩) (fun ⟨⟨i, n⟩, hI⟩ => ?_))))); rotate_right; conv => whnf)
    | (refine Exists.intro (⟨⟨i + 1, n * 10 - dgt (tOf s) i⟩, ?_⟩ : {x : Nat × Int // DigI (tOf s) x.1 x.2}) (And.intro ?_ (SubP.sub (σ := []) ⟨⟨rfl, rfl, rfl⟩, ⟨(wk_dat ?_), (wk_dat ?_), (wk_dat ?_), (wk_dat ?_), (wk_dat ?_), trivial⟩, trivial⟩)))
    | ((with_reducible refine pcI (g := 27) ?_); refine ⟨_, s_l01In .., rfl, ?_⟩; rotate_right; conv => whnf)
    | ((with_reducible show Exists _); refine Exists.intro _ (And.intro (s_l01In ..) (And.intro rfl ?_)); rotate_right; conv => whnf)
    | ((with_reducible show Exists _); refine Exists.intro _ (And.intro (s_FormatInt (h0 := ?_) (h1 := ?_) ..) (And.intro rfl ?_)); rotate_right; conv => whnf)
    | ((with_reducible show Exists _); refine Exists.intro _ (And.intro (ih (h1 := ?_) (h2 := ?_) (h3 := ?_) ..) (And.intro rfl ?_)); rotate_right; conv => whnf)
    | ((with_reducible show Exists _); refine Exists.intro _ (And.intro (s_FormatIntS (hl := ?_) (hh := ?_) (ih := ?_) ..) (And.intro rfl ?_)); rotate_right; conv => whnf)
    | ((with_reducible refine pcI (g := 18) ?_); refine ⟨_, s_FormatIntN (hl := ?_) (hh := ?_) .., rfl, ?_⟩; rotate_right; conv => whnf)
    | ((with_reducible show Exists _); refine Exists.intro _ (And.intro (s_FormatIntN (hl := ?_) (hh := ?_) ..) (And.intro rfl ?_)); rotate_right; conv => whnf)
    | ((with_reducible show awpOps _ _ _ _ _ _); conv => whnf)
    | (intro h; conv => whnf))
  all_goals (repeat (clear hK; clear K1))
  all_goals first
    | (with_reducible exact trivial)
    | (with_reducible assumption)
    | (exfalso; omega)
    | omega
    | (with_reducible exact (dig_s hI (by with_reducible assumption) (by with_reducible assumption) (by with_reducible assumption)).2)
    | (with_reducible exact negD_f (by with_reducible assumption))
    | exact (dig_s hI (by with_reducible assumption) (by with_reducible assumption) (by with_reducible assumption)).1
    | exact dig_mu (by with_reducible assumption)
    | (rw [(dig_r hI (by with_reducible assumption)).1]; exact (dig_r hI (by with_reducible assumption)).2.1)
    | (rw [(dig_r hI (by with_reducible assumption)).1]; exact (dig_r hI (by with_reducible assumption)).2.2)
    | exact hI.lo
    | exact dig_b hI
    | exact di_eq (rfl : ((0 : Nat) : Int) = 0)
    | exact di_eq (by have q := tOf_le s; rw [wrap_id (by omega) (by omega)]; omega)
    | exact db_eq (neg_0 (by with_reducible assumption))
    | exact congrArg Dat.str (tOf_t (neg_t (by with_reducible assumption) (by with_reducible assumption)))
    | exact congrArg Dat.str (tOf_f (neg_f (by with_reducible assumption)))
    | exact congrArg Dat.str (tOf_f (neg_0 (by with_reducible assumption)))
    | (have q : parseI s = (0, false) := (by first | exact pf_1 (neg_t (by with_reducible assumption) (by with_reducible assumption)) (by with_reducible assumption) | exact pf_2 (neg_t (by with_reducible assumption) (by with_reducible assumption)) (by with_reducible assumption) | exact pf_3 (neg_f (by with_reducible assumption)) (by with_reducible assumption) | exact pf_4 (neg_f (by with_reducible assumption)) (by with_reducible assumption) | exact pf_3 (neg_0 (by with_reducible assumption)) (by with_reducible assumption) | exact pf_4 (neg_0 (by with_reducible assumption)) (by with_reducible assumption) | exact pf_5 (by with_reducible assumption) (by with_reducible assumption) | exact pf_6 hI (by with_reducible assumption) (by with_reducible assumption) (by with_reducible assumption) | exact pf_7 hI (by with_reducible assumption) (by with_reducible assumption) | exact pf_8 hI (by with_reducible assumption) (by with_reducible assumption) (by with_reducible assumption) (by with_reducible assumption) | exact pf_9 hI (by with_reducible assumption) (by with_reducible assumption) (by with_reducible assumption)); first | exact di_eq (by rw [q]) | exact db_eq (by rw [q]))
    | exact di_eq (by rw [pt_8 hI (by with_reducible assumption) (by with_reducible assumption)])
    | exact db_eq (by rw [pt_8 hI (by with_reducible assumption) (by with_reducible assumption)])
    | exact di_eq (by rw [pt_9 hI (by with_reducible assumption)])
    | exact db_eq (by rw [pt_9 hI (by with_reducible assumption)])
    | skip
def numX0 (s : ByteArray) : ByteArray := if 0 < s.size ∧ bAt s 0 = 114 then s.extract 1 s.size else s
/-- a number behind an r, or alone -/
noncomputable def numX (s : ByteArray) : Int := (parseI (numX0 s)).1
theorem numX_t {s : ByteArray} (h0 : (s.size : Int) > 0) (h : ((s.data.toList.getD (Int.toNat 0) 0).toNat : Int) = 114) : numX s = (parseI (s.extract (Int.toNat 1) s.size)).1 := by
  unfold numX numX0
  rw [if_pos ⟨by omega, h⟩]; rfl
theorem numX_f {s : ByteArray} (h : ¬ ((s.data.toList.getD (Int.toNat 0) 0).toNat : Int) = 114) : numX s = (parseI s).1 := by
  unfold numX numX0
  rw [if_neg (fun k => h k.2)]
theorem numX_0 {s : ByteArray} (h0 : ¬ (s.size : Int) > 0) : numX s = (parseI s).1 := by
  unfold numX numX0
  rw [if_neg (fun k => h0 (by omega))]
set_option maxRecDepth 100000 in
theorem s_l05Number (s : ByteArray) (hs : s.size ≤ 1048576) : CallsV Tryd.prog 28 [.dat (.str s)] (.dat (.i (numX s))) := by
  refine CallsV.of_awp tauOk mixOk Tryd.func28 rfl rfl rfl ?_
  conv => whnf
  repeat' (first
    | ((with_reducible refine Alt.l ?_); conv => whnf)
    | ((with_reducible refine fun (K1 : AX → AState → Prop) hK => ?_); conv => whnf)
    | ((with_reducible show K1 _ _); subst hK; conv => whnf)
    | (with_reducible exact rfl)
    | ((with_reducible refine sp_T ?_); conv => whnf)
    | ((with_reducible refine sp_F ?_); conv => whnf)
    | ((with_reducible refine sp_T' ?_); conv => whnf)
    | ((with_reducible refine sp_F' ?_); conv => whnf)
    | ((with_reducible refine sp_dF ?_ ?_); decide; conv => whnf)
    | ((with_reducible refine sp_dT ?_ ?_); decide; conv => whnf)
    | ((with_reducible refine sp_d (fun h => ?_) (fun h => ?_)) <;> first | contradiction | (subst h; conv => whnf) | (conv => whnf))
    | ((with_reducible refine sp_d' (fun h => ?_) (fun h => ?_)) <;> first | contradiction | (subst h; conv => whnf) | (conv => whnf))
    | ((with_reducible refine sp_eF ?_ ?_); decide; conv => whnf)
    | ((with_reducible refine sp_eT ?_); conv => whnf)
    | ((with_reducible refine sp_e (fun h => ?_) (fun h => ?_)) <;> first | contradiction | (subst h; conv => whnf) | (conv => whnf))
    | ((with_reducible refine sp_e' (fun h => ?_) (fun h => ?_)) <;> first | contradiction | (subst h; conv => whnf) | (conv => whnf))
    | ((with_reducible refine sp_n (fun h => ?_) (fun h => ?_)) <;> first | contradiction | (subst h; conv => whnf) | (conv => whnf))
    | ((with_reducible refine sp_n' (fun h => ?_) (fun h => ?_)) <;> first | contradiction | (subst h; conv => whnf) | (conv => whnf))
    | ((with_reducible refine sp_nb (fun h => ?_) (fun h => ?_)) <;> first | (exact Bool.noConfusion (Eq.trans (Eq.symm h) (show _ = true by with_reducible assumption))) | (exact Bool.noConfusion (Eq.trans (Eq.symm (show _ = false by with_reducible assumption)) h)) | (conv => whnf))
    | ((with_reducible refine sp_nb' (fun h => ?_) (fun h => ?_)) <;> first | (exact Bool.noConfusion (Eq.trans (Eq.symm h) (show _ = true by with_reducible assumption))) | (exact Bool.noConfusion (Eq.trans (Eq.symm (show _ = false by with_reducible assumption)) h)) | (conv => whnf))
    | ((with_reducible refine sp_b (fun h => ?_) (fun h => ?_)) <;> first | (exact Bool.noConfusion (Eq.trans (Eq.symm h) (show _ = true by with_reducible assumption))) | (exact Bool.noConfusion (Eq.trans (Eq.symm (show _ = false by with_reducible assumption)) h)) | (conv => whnf))
    | ((with_reducible refine sp_b' (fun h => ?_) (fun h => ?_)) <;> first | (exact Bool.noConfusion (Eq.trans (Eq.symm h) (show _ = true by with_reducible assumption))) | (exact Bool.noConfusion (Eq.trans (Eq.symm (show _ = false by with_reducible assumption)) h)) | (conv => whnf))
    | (refine ⟨(rfl : nodupB _ = true), rfl, ?_⟩; conv => whnf)
    | (with_reducible refine bnd2 ?_ ?_)
    | (with_reducible refine bnd2' ?_ ?_)
    | (with_reducible refine bndN ?_ ?_)
    | ((with_reducible refine and_of ?_ ?_); conv => whnf)
    | ((with_reducible refine pcI (g := 39) ?_); refine ⟨_, s_ParseInt (hs := ?_) .., rfl, ?_⟩; rotate_right; conv => whnf)
    | ((with_reducible show Exists _); refine Exists.intro _ (And.intro (s_ParseInt (hs := ?_) ..) (And.intro rfl ?_)); rotate_right; conv => whnf)
    | ((with_reducible show awpOps _ _ _ _ _ _); conv => whnf)
    | (intro h; conv => whnf))
  all_goals (repeat (clear hK; clear K1))
  all_goals first
    | (with_reducible assumption)
    | omega
    | exact di_eq (numX_t (by with_reducible assumption) (by with_reducible assumption))
    | exact di_eq (numX_f (by with_reducible assumption))
    | exact di_eq (numX_0 (by with_reducible assumption))
    | (show (s.extract 1 s.size).size ≤ _; rw [ByteArray.size_extract]; omega)
end Vg
