/- Numbers are read: contracts of strconv.Atoi, strings.Split and of the functions that read numbers. Condition: texts are no longer than the law lets through. -/
import Derived.Test.YtlopkgjiccppfaaDoorSplQ
import Derived.Lib.ItoaLen
namespace Vg
open Go Go.Proofs
theorem v_Atoi (s : ByteArray) (hs : s.size ≤ 1048576) : CallsV Tryd.prog 53 [.dat (.str s)] (.tup [.dat (.i (atoiX s).1), .dat (.err (atoiX s).2)]) :=
  atoiV Tryd.laysC172 rfl ⟨_, Tryd.func53, rfl, rfl⟩ (by decide) (by decide) s (by omega)
theorem f_Split (s : ByteArray) (hs : s.size ≤ 1048576) : CallsF Tryd.prog 29 [.dat (.str s), .dat (.str ⟨#[32]⟩)] true (fun res B => res = .row 0 ∧ B = [.row 9 .strs (splB 32 s) false]) := by
  have h := splitF (P := Tryd.prog) (f := 29) (T := 9) Tryd.lays146 rfl rfl (by kernel_rfl) ⟨_, Tryd.func29, rfl, rfl⟩ (by decide) s ⟨#[32]⟩ (by omega) (Nat.le_refl _) (splitB_len 32 s) (by have := countB_one 32 s; have hm : maxLen = 9223372036854775807 := rfl; omega)
  rwa [splitB_eq] at h
theorem str_eq {a b : ByteArray} (h : (a.toList == b.toList) = true) : a = b := by
  rw [Lib.toList_data, Lib.toList_data] at h
  have := eq_of_beq h
  exact ByteArray.ext (Array.ext' this)
theorem str_ne {a b : ByteArray} (h : (a.toList == b.toList) = false) : a ≠ b := fun e => by
  subst e
  have : (a.toList == a.toList) = true := beq_self_eq_true _
  rw [this] at h
  cases h
theorem di_eq {a b : Int} (h : a = b) : Dat.i a = Dat.int .i64 b := congrArg (Dat.int .i64) h
theorem db_eq {a b : Bool} (h : a = b) : Dat.bool a = Dat.bool b := congrArg Dat.bool h
set_option maxRecDepth 100000 in
theorem i_ParseInt (s : ByteArray) (hs : s.size ≤ 1048576) : CallsV Tryd.prog 42 [.dat (.str s)] (.tup [.dat (.i (parseI s).1), .dat (.bool (parseI s).2)]) := by
  refine CallsV.of_awp tauOk mixOk Tryd.func42 rfl rfl rfl ?_
  conv => whnf
  repeat' (first
    | ((with_reducible refine Alt.l ?_); conv => whnf)
    | ((with_reducible refine fun (K1 : AX → AState → Prop) hK => ?_); conv => whnf)
    | ((with_reducible show K1 _ _); subst hK; conv => whnf)
    | (with_reducible exact rfl)
    | ((with_reducible refine sp_T ?_); conv => whnf)
    | ((with_reducible refine sp_F ?_); conv => whnf)
    | ((with_reducible refine sp_T' ?_); conv => whnf)
    | ((with_reducible refine sp_F' ?_); conv => whnf)
    | ((with_reducible refine sp_dF ?_ ?_); decide; conv => whnf)
    | ((with_reducible refine sp_dT ?_ ?_); decide; conv => whnf)
    | ((with_reducible refine sp_d (fun h => ?_) (fun h => ?_)) <;> first | contradiction | (subst h; conv => whnf) | (conv => whnf))
    | ((with_reducible refine sp_d' (fun h => ?_) (fun h => ?_)) <;> first | contradiction | (subst h; conv => whnf) | (conv => whnf))
    | ((with_reducible refine sp_eF ?_ ?_); decide; conv => whnf)
    | ((with_reducible refine sp_eT ?_); conv => whnf)
    | ((with_reducible refine sp_e (fun h => ?_) (fun h => ?_)) <;> first | contradiction | (subst h; conv => whnf) | (conv => whnf))
    | ((with_reducible refine sp_e' (fun h => ?_) (fun h => ?_)) <;> first | contradiction | (subst h; conv => whnf) | (conv => whnf))
    | ((with_reducible refine sp_n (fun h => ?_) (fun h => ?_)) <;> first | contradiction | (subst h; conv => whnf) | (conv => whnf))
    | ((with_reducible refine sp_n' (fun h => ?_) (fun h => ?_)) <;> first | contradiction | (subst h; conv => whnf) | (conv => whnf))
    | ((with_reducible refine sp_nb (fun h => ?_) (fun h => ?_)) <;> first | (exact Bool.noConfusion (Eq.trans (Eq.symm h) (show _ = true by with_reducible assumption))) | (exact Bool.noConfusion (Eq.trans (Eq.symm (show _ = false by with_reducible assumption)) h)) | (conv => whnf))
    | ((with_reducible refine sp_nb' (fun h => ?_) (fun h => ?_)) <;> first | (exact Bool.noConfusion (Eq.trans (Eq.symm h) (show _ = true by with_reducible assumption))) | (exact Bool.noConfusion (Eq.trans (Eq.symm (show _ = false by with_reducible assumption)) h)) | (conv => whnf))
    | ((with_reducible refine sp_b (fun h => ?_) (fun h => ?_)) <;> first | (exact Bool.noConfusion (Eq.trans (Eq.symm h) (show _ = true by with_reducible assumption))) | (exact Bool.noConfusion (Eq.trans (Eq.symm (show _ = false by with_reducible assumption)) h)) | (conv => whnf))
    | ((with_reducible refine sp_b' (fun h => ?_) (fun h => ?_)) <;> first | (exact Bool.noConfusion (Eq.trans (Eq.symm h) (show _ = true by with_reducible assumption))) | (exact Bool.noConfusion (Eq.trans (Eq.symm (show _ = false by with_reducible assumption)) h)) | (conv => whnf))
    | (refine ⟨(rfl : nodupB _ = true), rfl, ?_⟩; conv => whnf)
    | (with_reducible refine bnd2 ?_ ?_)
    | (with_reducible refine bnd2' ?_ ?_)
    | (with_reducible refine bndN ?_ ?_)
    | ((with_reducible refine and_of ?_ ?_); conv => whnf)
    | ((with_reducible refine pcI (g := 53) ?_); refine ⟨_, v_Atoi (hs := ?_) .., rfl, ?_⟩; rotate_right; conv => whnf)
    | ((with_reducible show Exists _); refine Exists.intro _ (And.intro (v_Atoi (hs := ?_) ..) (And.intro rfl ?_)); rotate_right; conv => whnf)
    | ((with_reducible refine pcI (g := 37) ?_); refine ⟨_, v_Itoa (h0 := ?_) (h1 := ?_) .., rfl, ?_⟩; rotate_right; conv => whnf)
    | ((with_reducible show Exists _); refine Exists.intro _ (And.intro (v_Itoa (h0 := ?_) (h1 := ?_) ..) (And.intro rfl ?_)); rotate_right; conv => whnf)
    | ((with_reducible show awpOps _ _ _ _ _ _); conv => whnf)
    | (intro h; conv => whnf))
  all_goals (repeat (clear hK; clear K1))
  all_goals first
    | (with_reducible exact trivial)
    | (with_reducible assumption)
    | exact (atoiX_bounds s).1
    | exact (atoiX_bounds s).2
    | exact di_eq (by rw [parseI_err (by with_reducible assumption)])
    | exact db_eq (by rw [parseI_err (by with_reducible assumption)])
    | exact di_eq (by rw [parseI_ne (str_ne (by with_reducible assumption))])
    | exact db_eq (by rw [parseI_ne (str_ne (by with_reducible assumption))])
    | exact di_eq (by rw [parseI_eq (str_eq (by with_reducible assumption))])
    | exact db_eq (by rw [parseI_eq (str_eq (by with_reducible assumption))])
def bAt (s : ByteArray) (n : Nat) : Int := ((s.data.toList.getD n 0).toNat : Int)
def regX (s : ByteArray) : Int × Bool := if s.size = 2 ∧ bAt s 0 = 114 ∧ 48 ≤ bAt s 1 ∧ bAt s 1 ≤ 51 then (bAt s 1 - 48, true) else (0, false)
theorem regX_yes {s : ByteArray} (h1 : (s.size : Int) = 2) (h2 : ((s.data.toList.getD (Int.toNat 0) 0).toNat : Int) = 114) (h3 : ¬ ((s.data.toList.getD (Int.toNat 1) 0).toNat : Int) < 48) (h4 : ¬ ((s.data.toList.getD (Int.toNat 1) 0).toNat : Int) > 51) :
    regX s = (IntKind.i64.wrap (IntKind.u8.wrap (((s.data.toList.getD (Int.toNat 1) 0).toNat : Int) - 48)), true) := by
  have e : IntKind.u8.wrap (((s.data.toList.getD (Int.toNat 1) 0).toNat : Int) - 48) = ((s.data.toList.getD (Int.toNat 1) 0).toNat : Int) - 48 := by
    generalize ((s.data.toList.getD (Int.toNat 1) 0).toNat : Int) = x at h3 h4
    simp only [IntKind.wrap]
    have q1 : (2 : Int) ^ IntKind.u8.bits = 256 := rfl
    have q3 : IntKind.u8.signed = false := rfl
    rw [q1, q3]
    simp
    omega
  rw [e, wrap_id (by omega) (by omega)]
  have c2 : bAt s 0 = 114 := h2
  have c3 : ¬ bAt s 1 < 48 := h3
  have c4 : ¬ bAt s 1 > 51 := h4
  unfold regX
  rw [if_pos ⟨by omega, c2, by omega, by omega⟩]
  rfl
theorem regX_1 {s : ByteArray} (h : ¬ (s.size : Int) = 2) : regX s = (0, false) := if_neg (fun k => h (by omega))
theorem regX_2 {s : ByteArray} (h : ¬ ((s.data.toList.getD (Int.toNat 0) 0).toNat : Int) = 114) : regX s = (0, false) := if_neg (fun k => h k.2.1)
theorem regX_3 {s : ByteArray} (h : ((s.data.toList.getD (Int.toNat 1) 0).toNat : Int) < 48) : regX s = (0, false) := if_neg (fun k => absurd h (Int.not_lt.2 k.2.2.1))
theorem regX_4 {s : ByteArray} (h : ((s.data.toList.getD (Int.toNat 1) 0).toNat : Int) > 51) : regX s = (0, false) := if_neg (fun k => absurd h (Int.not_lt.2 k.2.2.2))
theorem regX_lt (s : ByteArray) : 0 ≤ (regX s).1 ∧ (regX s).1 < 4 := by unfold regX; split <;> simp; omega
set_option maxRecDepth 100000 in
theorem i_parseReg (s : ByteArray) : CallsV Tryd.prog 41 [.dat (.str s)] (.tup [.dat (.i (regX s).1), .dat (.bool (regX s).2)]) := by
  refine CallsV.of_awp tauOk mixOk Tryd.func41 rfl rfl rfl ?_
  conv => whnf
  repeat' (first
    | ((with_reducible refine Alt.l ?_); conv => whnf)
    | ((with_reducible refine fun (K1 : AX → AState → Prop) hK => ?_); conv => whnf)
    | ((with_reducible show K1 _ _); subst hK; conv => whnf)
    | (with_reducible exact rfl)
    | ((with_reducible refine sp_T ?_); conv => whnf)
    | ((with_reducible refine sp_F ?_); conv => whnf)
    | ((with_reducible refine sp_T' ?_); conv => whnf)
    | ((with_reducible refine sp_F' ?_); conv => whnf)
    | ((with_reducible refine sp_dF ?_ ?_); decide; conv => whnf)
    | ((with_reducible refine sp_dT ?_ ?_); decide; conv => whnf)
    | ((with_reducible refine sp_d (fun h => ?_) (fun h => ?_)) <;> first | contradiction | (subst h; conv => whnf) | (conv => whnf))
    | ((with_reducible refine sp_d' (fun h => ?_) (fun h => ?_)) <;> first | contradiction | (subst h; conv => whnf) | (conv => whnf))
    | ((with_reducible refine sp_eF ?_ ?_); decide; conv => whnf)
    | ((with_reducible refine sp_eT ?_); conv => whnf)
    | ((with_reducible refine sp_e (fun h => ?_) (fun h => ?_)) <;> first | contradiction | (subst h; conv => whnf) | (conv => whnf))
    | ((with_reducible refine sp_e' (fun h => ?_) (fun h => ?_)) <;> first | contradiction | (subst h; conv => whnf) | (conv => whnf))
    | ((with_reducible refine sp_n (fun h => ?_) (fun h => ?_)) <;> first | contradiction | (subst h; conv => whnf) | (conv => whnf))
    | ((with_reducible refine sp_n' (fun h => ?_) (fun h => ?_)) <;> first | contradiction | (subst h; conv => whnf) | (conv => whnf))
    | ((with_reducible refine sp_nb (fun h => ?_) (fun h => ?_)) <;> first | (exact Bool.noConfusion (Eq.trans (Eq.symm h) (show _ = true by with_reducible assumption))) | (exact Bool.noConfusion (Eq.trans (Eq.symm (show _ = false by with_reducible assumption)) h)) | (conv => whnf))
    | ((with_reducible refine sp_nb' (fun h => ?_) (fun h => ?_)) <;> first | (exact Bool.noConfusion (Eq.trans (Eq.symm h) (show _ = true by with_reducible assumption))) | (exact Bool.noConfusion (Eq.trans (Eq.symm (show _ = false by with_reducible assumption)) h)) | (conv => whnf))
    | ((with_reducible refine sp_b (fun h => ?_) (fun h => ?_)) <;> first | (exact Bool.noConfusion (Eq.trans (Eq.symm h) (show _ = true by with_reducible assumption))) | (exact Bool.noConfusion (Eq.trans (Eq.symm (show _ = false by with_reducible assumption)) h)) | (conv => whnf))
    | ((with_reducible refine sp_b' (fun h => ?_) (fun h => ?_)) <;> first | (exact Bool.noConfusion (Eq.trans (Eq.symm h) (show _ = true by with_reducible assumption))) | (exact Bool.noConfusion (Eq.trans (Eq.symm (show _ = false by with_reducible assumption)) h)) | (conv => whnf))
    | (refine ⟨(rfl : nodupB _ = true), rfl, ?_⟩; conv => whnf)
    | (with_reducible refine bnd2 ?_ ?_)
    | (with_reducible refine bnd2' ?_ ?_)
    | (with_reducible refine bndN ?_ ?_)
    | ((with_reducible refine and_of ?_ ?_); conv => whnf)
    | ((with_reducible show awpOps _ _ _ _ _ _); conv => whnf)
    | (intro h; conv => whnf))
  all_goals (repeat (clear hK; clear K1))
  all_goals first
    | (with_reducible exact trivial)
    | (exact di_eq (by rw [regX_yes (by with_reducible assumption) (by with_reducible assumption) (by with_reducible assumption) (by with_reducible assumption)]))
    | (exact db_eq (by rw [regX_yes (by with_reducible assumption) (by with_reducible assumption) (by with_reducible assumption) (by with_reducible assumption)]))
    | exact di_eq (by rw [regX_1 (by with_reducible assumption)])
    | exact db_eq (by rw [regX_1 (by with_reducible assumption)])
    | exact di_eq (by rw [regX_2 (by with_reducible assumption)])
    | exact db_eq (by rw [regX_2 (by with_reducible assumption)])
    | exact di_eq (by rw [regX_3 (by with_reducible assumption)])
    | exact db_eq (by rw [regX_3 (by with_reducible assumption)])
    | exact di_eq (by rw [regX_4 (by with_reducible assumption)])
    | exact db_eq (by rw [regX_4 (by with_reducible assumption)])
    | omega
noncomputable def opI (s : ByteArray) : Int := if (regX s).2 = true then (regX s).1 else (parseI s).1
set_option maxRecDepth 100000 in
theorem i_parseOperand (s : ByteArray) (hs : s.size ≤ 1048576) : CallsV Tryd.prog 30 [.dat (.str s)] (.dat (.i (opI s))) := by
  refine CallsV.of_awp tauOk mixOk Tryd.func30 rfl rfl rfl ?_
  conv => whnf
  repeat' (first
    | ((with_reducible refine Alt.l ?_); conv => whnf)
    | ((with_reducible refine fun (K1 : AX → AState → Prop) hK => ?_); conv => whnf)
    | ((with_reducible show K1 _ _); subst hK; conv => whnf)
    | (with_reducible exact rfl)
    | ((with_reducible refine sp_T ?_); conv => whnf)
    | ((with_reducible refine sp_F ?_); conv => whnf)
    | ((with_reducible refine sp_T' ?_); conv => whnf)
    | ((with_reducible refine sp_F' ?_); conv => whnf)
    | ((with_reducible refine sp_dF ?_ ?_); decide; conv => whnf)
    | ((with_reducible refine sp_dT ?_ ?_); decide; conv => whnf)
    | ((with_reducible refine sp_d (fun h => ?_) (fun h => ?_)) <;> first | contradiction | (subst h; conv => whnf) | (conv => whnf))
    | ((with_reducible refine sp_d' (fun h => ?_) (fun h => ?_)) <;> first | contradiction | (subst h; conv => whnf) | (conv => whnf))
    | ((with_reducible refine sp_eF ?_ ?_); decide; conv => whnf)
    | ((with_reducible refine sp_eT ?_); conv => whnf)
    | ((with_reducible refine sp_e (fun h => ?_) (fun h => ?_)) <;> first | contradiction | (subst h; conv => whnf) | (conv => whnf))
    | ((with_reducible refine sp_e' (fun h => ?_) (fun h => ?_)) <;> first | contradiction | (subst h; conv => whnf) | (conv => whnf))
    | ((with_reducible refine sp_n (fun h => ?_) (fun h => ?_)) <;> first | contradiction | (subst h; conv => whnf) | (conv => whnf))
    | ((with_reducible refine sp_n' (fun h => ?_) (fun h => ?_)) <;> first | contradiction | (subst h; conv => whnf) | (conv => whnf))
    | ((with_reducible refine sp_nb (fun h => ?_) (fun h => ?_)) <;> first | (exact Bool.noConfusion (Eq.trans (Eq.symm h) (show _ = true by with_reducible assumption))) | (exact Bool.noConfusion (Eq.trans (Eq.symm (show _ = false by with_reducible assumption)) h)) | (conv => whnf))
    | ((with_reducible refine sp_nb' (fun h => ?_) (fun h => ?_)) <;> first | (exact Bool.noConfusion (Eq.trans (Eq.symm h) (show _ = true by with_reducible assumption))) | (exact Bool.noConfusion (Eq.trans (Eq.symm (show _ = false by with_reducible assumption)) h)) | (conv => whnf))
    | ((with_reducible refine sp_b (fun h => ?_) (fun h => ?_)) <;> first | (exact Bool.noConfusion (Eq.trans (Eq.symm h) (show _ = true by with_reducible assumption))) | (exact Bool.noConfusion (Eq.trans (Eq.symm (show _ = false by with_reducible assumption)) h)) | (conv => whnf))
    | ((with_reducible refine sp_b' (fun h => ?_) (fun h => ?_)) <;> first | (exact Bool.noConfusion (Eq.trans (Eq.symm h) (show _ = true by with_reducible assumption))) | (exact Bool.noConfusion (Eq.trans (Eq.symm (show _ = false by with_reducible assumption)) h)) | (conv => whnf))
    | (refine ⟨(rfl : nodupB _ = true), rfl, ?_⟩; conv => whnf)
    | (with_reducible refine bnd2 ?_ ?_)
    | (with_reducible refine bnd2' ?_ ?_)
    | (with_reducible refine bndN ?_ ?_)
    | ((with_reducible refine and_of ?_ ?_); conv => whnf)
    | ((with_reducible refine pcI (g := 41) ?_); refine ⟨_, i_parseReg .., rfl, ?_⟩; rotate_right; conv => whnf)
    | ((with_reducible show Exists _); refine Exists.intro _ (And.intro (i_parseReg ..) (And.intro rfl ?_)); rotate_right; conv => whnf)
    | ((with_reducible refine pcI (g := 42) ?_); refine ⟨_, i_ParseInt (hs := ?_) .., rfl, ?_⟩; rotate_right; conv => whnf)
    | ((with_reducible show Exists _); refine Exists.intro _ (And.intro (i_ParseInt (hs := ?_) ..) (And.intro rfl ?_)); rotate_right; conv => whnf)
    | ((with_reducible show awpOps _ _ _ _ _ _); conv => whnf)
    | (intro h; conv => whnf))
  all_goals (repeat (clear hK; clear K1))
  all_goals first
    | (with_reducible assumption)
    | exact di_eq (if_pos (by assumption))
    | (have q : (regX s).2 = false := by assumption
       exact di_eq (if_neg (by rw [q]; decide)))
/-! ### the reference's numbers -/
theorem td10 {n : Int} (h : n < 0) : n.tdiv 10 = -((n.natAbs / 10 : Nat) : Int) ∧ n.tmod 10 = -((n.natAbs % 10 : Nat) : Int) := by
  obtain ⟨u, rfl⟩ : ∃ u : Nat, n = -(u : Int) := ⟨n.natAbs, by omega⟩
  rw [Int.neg_tdiv, Int.neg_tmod, Int.natAbs_neg, Int.natAbs_natCast]
  exact ⟨rfl, rfl⟩
theorem itoa_neg' {n : Int} (h : n < 0) : itoaS n = ⟨#[45]⟩ ++ mkB (Lib.decDigits n.natAbs) := by
  unfold itoaS Lib.itoa
  rw [if_pos h]
  exact str_cons _ _
theorem mkB_app (a b : List UInt8) : mkB (a ++ b) = mkB a ++ mkB b := by
  apply ByteArray.ext
  rw [ByteArray.data_append]
  simp [mkB]
theorem fn_1 {n : Int} (h0 : -9223372036854775808 ≤ n) (h : n < 0) (hz : IntKind.i64.wrap (n.tdiv 10) = 0) : Dat.str (itoaS n) = Dat.str (⟨#[45]⟩ ++ strOfNums [IntKind.u8.wrap (IntKind.i64.wrap (48 - n))]) := by
  have h10 := (td10 h).1
  rw [wrap_id (by omega) (by omega), h10] at hz
  have hu : n.natAbs < 10 := by omega
  have e : (48 : Int) - n = 48 + (n.natAbs : Int) := by omega
  rw [e, u8_dig hu, itoa_neg' h, Lib.decDigits, dif_pos hu]; rfl
theorem fn_2 {n : Int} (h0 : -9223372036854775808 ≤ n) (h : n < 0) (hz : ¬ IntKind.i64.wrap (n.tdiv 10) = 0) : Dat.str (itoaS n) = Dat.str (itoaS (IntKind.i64.wrap (n.tdiv 10)) ++ strOfNums [IntKind.u8.wrap (IntKind.i64.wrap (48 - n.tmod 10))]) := by
  have h10 := td10 h
  rw [wrap_id (by omega) (by omega), h10.1] at hz ⊢
  have hu : ¬ n.natAbs < 10 := by omega
  have e : (48 : Int) - n.tmod 10 = 48 + ((n.natAbs % 10 : Nat) : Int) := by omega
  have ea : (-((n.natAbs / 10 : Nat) : Int)).natAbs = n.natAbs / 10 := by omega
  rw [e, u8_dig (by omega), itoa_neg' h, itoa_neg' (by omega), ea, Lib.decDigits, dif_neg hu, mkB_app, ByteArray.append_assoc]; rfl
theorem fn_r {n : Int} (h0 : -9223372036854775808 ≤ n) (h : n < 0) (hz : ¬ IntKind.i64.wrap (n.tdiv 10) = 0) : IntKind.i64.wrap (n.tdiv 10) < 0 ∧ -9223372036854775808 ≤ IntKind.i64.wrap (n.tdiv 10) ∧ (IntKind.i64.wrap (n.tdiv 10)).natAbs < n.natAbs := by
  have h10 := td10 h
  rw [wrap_id (by omega) (by omega), h10.1] at hz ⊢
  omega
theorem itoaS_len {n : Int} (h0 : -9223372036854775808 ≤ n) (h1 : n ≤ 9223372036854775807) : (itoaS n).size ≤ 21 := by
  show (Lib.itoa n).toArray.size ≤ 21
  simpa using Lib.itoa_length_le n h0 h1
theorem fmt_q' {n0 n : Int} {l : List UInt8} (h : FmtI n0 n l) (h1 : n0 ≤ 9223372036854775807) : Dat.i (n / 10) = Dat.int .i64 (IntKind.i64.wrap (n.tdiv 10)) := by
  have e : n.tdiv 10 = n / 10 := Int.tdiv_eq_ediv_of_nonneg h.nn
  have := h.le; have := h.nn
  rw [e, wrap_id (by omega) (by omega)]
theorem fmt_len' {n0 n : Int} {l : List UInt8} (h : FmtI n0 n l) (h1 : n0 ≤ 9223372036854775807) : l.length ≤ 20 := by
  have := h.nn; have := h.le
  have := dig_len 19 n0.toNat (by omega)
  have := h.len
  omega
theorem str1 (n : Int) : (strOfNums [n]).size = 1 := rfl
theorem fmt_b' {l : List UInt8} {x : ByteArray} (h : l.length ≤ 20) (hx : x.size = 1) : x.size + (⟨l.toArray⟩ : ByteArray).size ≤ maxLen := by
  have e : (⟨l.toArray⟩ : ByteArray).size = l.length := List.size_toArray ..
  have hm : maxLen = 9223372036854775807 := rfl
  omega
theorem fmt_a' {x y : ByteArray} (h : x.size ≤ 21) (hx : y.size = 1) : x.size + y.size ≤ maxLen := by
  have hm : maxLen = 9223372036854775807 := rfl
  omega
set_option maxHeartbeats 2000000 in
set_option maxRecDepth 100000 in
theorem s_FormatIntS (n0 : Int) (hl : -9223372036854775808 ≤ n0) (hh : n0 ≤ 9223372036854775807) (ih : ∀ (m : Int) (h1 : m < 0) (h2 : -9223372036854775808 ≤ m) (h3 : m.natAbs < n0.natAbs), CallsV Tryd.prog 18 [.dat (.i m)] (.dat (.str (itoaS m)))) : CallsV Tryd.prog 18 [.dat (.i n0)] (.dat (.str (itoaS n0))) := by
  refine CallsV.of_awp tauOk mixOk Tryd.func18 rfl rfl rfl ?_
  conv => whnf
  repeat' (first
    | ((with_reducible refine Alt.l ?_); conv => whnf)
    | ((with_reducible refine fun (K1 : AX → AState → Prop) hK => ?_); conv => whnf)
    | ((with_reducible show K1 _ _); subst hK; conv => whnf)
    | (with_reducible exact rfl)
    | ((with_reducible refine sp_T ?_); conv => whnf)
    | ((with_reducible refine sp_F ?_); conv => whnf)
    | ((with_reducible refine sp_T' ?_); conv => whnf)
    | ((with_reducible refine sp_F' ?_); conv => whnf)
    | ((with_reducible refine sp_dF ?_ ?_); decide; conv => whnf)
    | ((with_reducible refine sp_dT ?_ ?_); decide; conv => whnf)
    | ((with_reducible refine sp_d (fun h => ?_) (fun h => ?_)) <;> first | contradiction | (subst h; conv => whnf) | (conv => whnf))
    | ((with_reducible refine sp_d' (fun h => ?_) (fun h => ?_)) <;> first | contradiction | (subst h; conv => whnf) | (conv => whnf))
    | ((with_reducible refine sp_eF ?_ ?_); decide; conv => whnf)
    | ((with_reducible refine sp_eT ?_); conv => whnf)
    | ((with_reducible refine sp_e (fun h => ?_) (fun h => ?_)) <;> first | contradiction | (subst h; conv => whnf) | (conv => whnf))
    | ((with_reducible refine sp_e' (fun h => ?_) (fun h => ?_)) <;> first | contradiction | (subst h; conv => whnf) | (conv => whnf))
    | ((with_reducible refine sp_n (fun h => ?_) (fun h => ?_)) <;> first | contradiction | (subst h; conv => whnf) | (conv => whnf))
    | ((with_reducible refine sp_n' (fun h => ?_) (fun h => ?_)) <;> first | contradiction | (subst h; conv => whnf) | (conv => whnf))
    | ((with_reducible refine sp_nb (fun h => ?_) (fun h => ?_)) <;> first | (exact Bool.noConfusion (Eq.trans (Eq.symm h) (show _ = true by with_reducible assumption))) | (exact Bool.noConfusion (Eq.trans (Eq.symm (show _ = false by with_reducible assumption)) h)) | (conv => whnf))
    | ((with_reducible refine sp_nb' (fun h => ?_) (fun h => ?_)) <;> first | (exact Bool.noConfusion (Eq.trans (Eq.symm h) (show _ = true by with_reducible assumption))) | (exact Bool.noConfusion (Eq.trans (Eq.symm (show _ = false by with_reducible assumption)) h)) | (conv => whnf))
    | ((with_reducible refine sp_b (fun h => ?_) (fun h => ?_)) <;> first | (exact Bool.noConfusion (Eq.trans (Eq.symm h) (show _ = true by with_reducible assumption))) | (exact Bool.noConfusion (Eq.trans (Eq.symm (show _ = false by with_reducible assumption)) h)) | (conv => whnf))
    | ((with_reducible refine sp_b' (fun h => ?_) (fun h => ?_)) <;> first | (exact Bool.noConfusion (Eq.trans (Eq.symm h) (show _ = true by with_reducible assumption))) | (exact Bool.noConfusion (Eq.trans (Eq.symm (show _ = false by with_reducible assumption)) h)) | (conv => whnf))
    | (refine ⟨(rfl : nodupB _ = true), rfl, ?_⟩; conv => whnf)
    | (with_reducible refine bnd2 ?_ ?_)
    | (with_reducible refine bnd2' ?_ ?_)
    | (with_reducible refine bndN ?_ ?_)
    | ((with_reducible refine and_of ?_ ?_); conv => whnf)
    | (refine Exists.intro ({x : Int × List UInt8 // FmtI n0 x.1 x.2}) (Exists.intro (fun ⟨⟨n, l⟩, hI⟩ => mkS Tryd.f18.ntmps [(0, .dat (.i n)), (3, .dat (.str ⟨l.toArray⟩))] []) (Exists.intro (fun ⟨⟨n, l⟩, hI⟩ => n.toNat) (Exists.intro ⟨⟨n0, []⟩, fmtI_0 (by omega)⟩ (And.intro (SubP.sub (σ := []) ⟨⟨rfl, rfl, rfl⟩, ⟨(wk_dat ?_), (wk_dat ?_), trivial⟩, trivial⟩) (fun ⟨⟨n, l⟩, hI⟩ => ?_))))); rotate_right; conv => whnf)
    | (refine Exists.intro (⟨⟨n / 10, UInt8.ofNat (48 + (n % 10).toNat) :: l⟩, ?_⟩ : {x : Int × List UInt8 // FmtI n0 x.1 x.2}) (And.intro ?_ (SubP.sub (σ := []) ⟨⟨rfl, rfl, rfl⟩, ⟨(wk_dat ?_), (wk_dat ?_), trivial⟩, trivial⟩)))
    | ((with_reducible show Exists _); refine Exists.intro _ (And.intro (s_FormatInt (h0 := ?_) (h1 := ?_) ..) (And.intro rfl ?_)); rotate_right; conv => whnf)
    | ((with_reducible refine pcI (g := 18) ?_); refine ⟨_, ih (h1 := ?_) (h2 := ?_) (h3 := ?_) .., rfl, ?_⟩; rotate_right; conv => whnf)
    | ((with_reducible show Exists _); refine Exists.intro _ (And.intro (ih (h1 := ?_) (h2 := ?_) (h3 := ?_) ..) (And.intro rfl ?_)); rotate_right; conv => whnf)
    | ((with_reducible show awpOps _ _ _ _ _ _); conv => whnf)
    | (intro h; conv => whnf))
  all_goals (repeat (clear hK; clear K1))
  all_goals first
    | (with_reducible assumption)
    | (with_reducible rfl)
    | (with_reducible exact fn_1 hl (by with_reducible assumption) (by with_reducible assumption))
    | (with_reducible exact fn_2 hl (by with_reducible assumption) (by with_reducible assumption))
    | (with_reducible exact (fn_r hl (by with_reducible assumption) (by with_reducible assumption)).1)
    | (with_reducible exact (fn_r hl (by with_reducible assumption) (by with_reducible assumption)).2.1)
    | (with_reducible exact (fn_r hl (by with_reducible assumption) (by with_reducible assumption)).2.2)
    | (with_reducible exact fmt_s hI)
    | (with_reducible exact fmt_q' hI hh)
    | (with_reducible exact fmt_end hI (by with_reducible assumption))
    | (with_reducible exact (fmt_end hI (by with_reducible assumption)).symm)
    | (with_reducible exact fmt_b' (fmt_len' hI hh) (str1 _))
    | (with_reducible exact fmt_a' (show (⟨#[45]⟩ : ByteArray).size ≤ 21 from by decide) (str1 _))
    | (with_reducible exact fmt_a' (itoaS_len (fn_r hl (by with_reducible assumption) (by with_reducible assumption)).2.1 (by have q := (fn_r hl (by with_reducible assumption) (by with_reducible assumption)).1; omega)) (str1 _))
    | (exfalso; omega)
    | exact fmtI_s hI (by with_reducible assumption)
    | exact fmt_mu hI (by with_reducible assumption)
    | omega
    | (dsimp only; omega)
    | rfl
    | skip
theorem s_FormatIntN (n : Int) (hl : -9223372036854775808 ≤ n) (hh : n ≤ 9223372036854775807) : CallsV Tryd.prog 18 [.dat (.i n)] (.dat (.str (itoaS n))) := by
  have key : ∀ (k : Nat) (m : Int), m.natAbs < k → -9223372036854775808 ≤ m → m ≤ 9223372036854775807 → CallsV Tryd.prog 18 [.dat (.i m)] (.dat (.str (itoaS m))) := by
    intro k
    induction k with
    | zero => intro m h; omega
    | succ k ih => intro m h h0 h1; exact s_FormatIntS m h0 h1 (fun x hx hx0 hxa => ih x (by omega) hx0 (by omega))
  exact key (n.natAbs + 1) n (by omega) hl hh
end Vg
