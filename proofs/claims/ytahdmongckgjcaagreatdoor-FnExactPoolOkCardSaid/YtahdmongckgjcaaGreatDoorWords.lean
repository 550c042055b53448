/- Words: contracts of the reference's and the program's functions that compute with them. No condition. -/
import Derived.Test.YtahdmongckgjcaaGreatDoorBase
namespace Vg
open Go Go.Proofs
set_option maxRecDepth 100000
set_option maxHeartbeats 40000000
theorem uw0 {b : Int} (h : inP b 0 15 = true) : IntKind.u64.wrap b = b := by
  have h' : 0 ≤ b ∧ b ≤ 15 := by simpa [inP] using h
  have h2 : b.toNat < 16 := by omega
  have e : b = (b.toNat : Int) := by omega
  rw [e]
  revert h2
  generalize b.toNat = k
  intro h
  have : ∀ k < 16, IntKind.u64.wrap ((k : Nat) : Int) = k := by decide
  exact this k h
def qb9 (w n : Int) : Int := if inP w 1 16 = true then IntKind.i64.wrap (BitVec.ofInt IntKind.i64.bits n &&& BitVec.ofInt IntKind.i64.bits (2 ^ w.toNat - 1)).toNat else -1
theorem qmm {w n : Int} (h : inP w 1 16 = false) : qb9 w n = -1 := by
  unfold qb9
  rw [if_neg (by simp [h])]
theorem qhe {w n : Int} (h : inP w 1 16 = true) : qb9 w n = IntKind.i64.wrap (BitVec.ofInt IntKind.i64.bits n &&& BitVec.ofInt IntKind.i64.bits (IntKind.i64.wrap (IntKind.i64.wrap (1 * 2 ^ min w.toNat IntKind.i64.bits) - 1))).toNat := by
  unfold qb9
  rw [if_pos h, shl1 h, top1 h]
theorem qik (w n : Int) : CallsV Tryz.prog 213 [.dat (.i w), .dat (.i n)] (.dat (.i (qb9 w n))) := by
  refine CallsV.of_awp qaf qag Tryz.func213 rfl rfl rfl ?_
  conv => whnf
  repeat' (first | ((with_reducible first | refine fun (K1 : AX → AState → Prop) hK => ?_ | (show K1 _ _; subst hK)); conv => whnf) | ((with_reducible refine qbt (fun h => ?_) (fun h => ?_)) <;> first | contradiction | (conv => whnf)) | (refine ⟨(rfl : qac _ = true), rfl, ?_⟩; conv => whnf) | ((with_reducible refine qad ?_ ?_); conv => whnf) | ((with_reducible refine pcI (g := 38) ?_); refine ⟨_, s_l01In .., rfl, ?_⟩; rotate_right; conv => whnf))
  all_goals (repeat (clear hK; clear K1))
  · rw [qmm h]
  · rw [qhe h]
  · simp [inP] at h; omega
theorem qin (w n : Int) : CallsV Tryz.prog 206 [.dat (.i w), .dat (.i n)] (.dat (.i (qb9 w n))) := by
  refine CallsV.of_awp qaf qag Tryz.func206 rfl rfl rfl ?_
  conv => whnf
  repeat' (first | ((with_reducible first | refine fun (K1 : AX → AState → Prop) hK => ?_ | (show K1 _ _; subst hK)); conv => whnf) | ((with_reducible refine qbt (fun h => ?_) (fun h => ?_)) <;> first | contradiction | (conv => whnf)) | (refine ⟨(rfl : qac _ = true), rfl, ?_⟩; conv => whnf) | ((with_reducible refine qad ?_ ?_); conv => whnf) | ((with_reducible refine pcI (g := 102) ?_); refine ⟨_, i_isWidth .., rfl, ?_⟩; rotate_right; conv => whnf))
  all_goals (repeat (clear hK; clear K1))
  · rw [qmm h]
  · rw [qhe h, uw h]
  · rw [uw h]; simp [inP] at h; omega
def qda (b : Bool) : Int := if b then 1 else 0
theorem s_l01Truth (b : Bool) : CallsV Tryz.prog 215 [.dat (.bool b)] (.dat (.i (qda b))) := by
  refine CallsV.of_awp qaf qag Tryz.func215 rfl rfl rfl ?_
  conv => whnf
  repeat' (first | ((with_reducible first | refine fun (K1 : AX → AState → Prop) hK => ?_ | (show K1 _ _; subst hK)); conv => whnf) | ((with_reducible refine qdl (fun h => ?_) (fun h => ?_)) <;> first | contradiction | (conv => whnf)) | (refine ⟨(rfl : qac _ = true), rfl, ?_⟩; conv => whnf))
  all_goals (repeat (clear hK; clear K1))
  all_goals first | rfl | (simp [qda, *]; done)
theorem i_boolWord (b : Bool) : CallsV Tryz.prog 209 [.dat (.bool b)] (.dat (.i (qda b))) := by
  refine CallsV.of_awp qaf qag Tryz.func209 rfl rfl rfl ?_
  conv => whnf
  repeat' (first | ((with_reducible first | refine fun (K1 : AX → AState → Prop) hK => ?_ | (show K1 _ _; subst hK)); conv => whnf) | ((with_reducible refine qdl (fun h => ?_) (fun h => ?_)) <;> first | contradiction | (conv => whnf)) | (refine ⟨(rfl : qac _ = true), rfl, ?_⟩; conv => whnf))
  all_goals (repeat (clear hK; clear K1))
  all_goals first | rfl | (simp [qda, *]; done)
structure WF (w : Int) : Prop where
  lo : 1 ≤ w
  hi : w ≤ 16
  wm : IntKind.i64.wrap (w - 1) = w - 1
  um : IntKind.u64.wrap (w - 1) = w - 1
  u : IntKind.u64.wrap w = w
  s : IntKind.i64.wrap (1 * 2 ^ min w.toNat IntKind.i64.bits) = 2 ^ w.toNat
  s2 : (2 : Int) ^ w.toNat ≤ 65536
  s3 : (2 : Int) ≤ 2 ^ w.toNat
  mn : min (w - 1).toNat IntKind.i64.bits = (w - 1).toNat
  half : (2 : Int) ^ w.toNat = 2 * 2 ^ (w - 1).toNat
theorem wf {w : Int} (h : inP w 1 16 = true) : WF w := by
  have hu := uw h
  have hs := shl1 h
  simp [inP] at h
  have h1 : (w.toNat : Int) = w := by omega
  have h2 : w.toNat ≤ 16 := by omega
  have h3 : 1 ≤ w.toNat := by omega
  have e : w = ((w.toNat : Nat) : Int) := h1.symm
  have h4 : (w - 1).toNat = w.toNat - 1 := by omega
  refine ⟨by omega, by omega, qah (by omega) (by omega), ?_, hu, hs, ?_, ?_, ?_, ?_⟩
  · have : inP (w - 1) 0 15 = true := by simp [inP]; omega
    exact uw0 this
  · have : ∀ k ≤ 16, (2 : Int) ^ k ≤ 65536 := by decide
    exact this _ h2
  · have : ∀ k ≤ 16, 1 ≤ k → (2 : Int) ≤ 2 ^ k := by decide
    exact this _ h2 h3
  · have : IntKind.i64.bits = 64 := rfl
    omega
  · rw [h4]
    have : ∀ k ≤ 16, 1 ≤ k → (2 : Int) ^ k = 2 * 2 ^ (k - 1) := by decide
    exact this _ h2 h3
theorem qax {w a : Int} (h : wordP w a = true) : inP w 1 16 = true ∧ 0 ≤ a ∧ a < 2 ^ w.toNat := by
  simp only [wordP, Bool.and_eq_true] at h
  refine ⟨h.1, ?_⟩
  have := h.2
  simp [inP] at this
  omega
theorem qde {w a : Int} (h : inP w 1 16 = true) (h0 : 0 ≤ a) (h1 : a < 2 ^ w.toNat) : wordP w a = true := by
  simp only [wordP, h, Bool.true_and]
  simp [inP]; omega
def qcc (w a : Int) : Int := if wordP w a = true then (if Int.fdiv a (2 ^ (w - 1).toNat) = 0 then a else a - 2 ^ w.toNat) else 0
theorem fdiv_01 {w a : Int} (h : wordP w a = true) : Int.fdiv a (2 ^ (w - 1).toNat) = 0 ∨ Int.fdiv a (2 ^ (w - 1).toNat) = 1 := by
  obtain ⟨hw, h0, h1⟩ := qax h
  have F := wf hw
  have hp : (0 : Int) < 2 ^ (w - 1).toNat := by have := F.half; have := F.s3; omega
  rw [Int.fdiv_eq_ediv_of_nonneg _ (Int.le_of_lt hp)]
  have h2 : a < 2 * 2 ^ (w - 1).toNat := by rw [← F.half]; exact h1
  have h3 : a / 2 ^ (w - 1).toNat < 2 := Int.ediv_lt_of_lt_mul hp h2
  have h4 : 0 ≤ a / 2 ^ (w - 1).toNat := Int.ediv_nonneg h0 (Int.le_of_lt hp)
  omega
theorem qii {n : Int} (h1 : 0 ≤ n) (h2 : n < 18446744073709551616) : IntKind.u64.wrap n = n := by
  simp only [IntKind.wrap]
  have e1 : (2 : Int) ^ IntKind.u64.bits = 18446744073709551616 := rfl
  have e3 : IntKind.u64.signed = false := rfl
  simp only [e1, e3]
  simp
  omega
theorem sg_no {w a : Int} (h : wordP w a = false) : qcc w a = 0 := by simp [qcc, h]
theorem sg_lo {w a : Int} (h : wordP w a = true) (h1 : Int.fdiv a (2 ^ (w - 1).toNat) = 0) : qcc w a = a := by
  unfold qcc
  rw [if_pos h, if_pos h1]
theorem sg_hi {w a : Int} (h : wordP w a = true) (h1 : ¬ Int.fdiv a (2 ^ (w - 1).toNat) = 0) : qcc w a = IntKind.i64.wrap (a - 2 ^ w.toNat) := by
  obtain ⟨hw, h0, h2⟩ := qax h
  have F := wf hw
  have := F.s2
  have := F.s3
  rw [qah (by omega) (by omega)]
  unfold qcc
  rw [if_pos h, if_neg h1]
theorem qkm (w a : Int) : CallsV Tryz.prog 214 [.dat (.i w), .dat (.i a)] (.dat (.i (qcc w a))) := by
  refine CallsV.of_awp qaf qag Tryz.func214 rfl rfl rfl ?_
  conv => whnf
  repeat' (first | ((with_reducible first | refine fun (K1 : AX → AState → Prop) hK => ?_ | (show K1 _ _; subst hK)); conv => whnf) | ((with_reducible refine qcb (fun h => ?_) (fun h => ?_)) <;> first | contradiction | (subst h; conv => whnf) | (conv => whnf)) | ((with_reducible refine qbt (fun h => ?_) (fun h => ?_)) <;> first | contradiction | (conv => whnf)) | (refine ⟨(rfl : qac _ = true), rfl, ?_⟩; conv => whnf) | ((with_reducible refine qad ?_ ?_); conv => whnf) | ((with_reducible refine pcI (g := 74) ?_); refine ⟨_, qdp .., rfl, ?_⟩; rotate_right; conv => whnf))
  all_goals (repeat (clear hK; clear K1))
  all_goals first
    | exact congrArg Dat.i (sg_no h)
    | (have hw0 : wordP w a = true := by assumption
       obtain ⟨hw, h0, h1⟩ := qax hw0
       have F := wf hw
       have F1 := F.lo
       have F3 := fdiv_01 hw0
       try simp only [F.wm, F.s, F.mn] at *
       first | omega | exact congrArg Dat.i (sg_lo hw0 (by omega)) | exact congrArg Dat.i (sg_hi hw0 (by omega)))
theorem qhq (w a : Int) : CallsV Tryz.prog 207 [.dat (.i w), .dat (.i a)] (.dat (.i (qcc w a))) := by
  refine CallsV.of_awp qaf qag Tryz.func207 rfl rfl rfl ?_
  conv => whnf
  repeat' (first | ((with_reducible first | refine fun (K1 : AX → AState → Prop) hK => ?_ | (show K1 _ _; subst hK)); conv => whnf) | ((with_reducible refine qcb (fun h => ?_) (fun h => ?_)) <;> first | contradiction | (subst h; conv => whnf) | (conv => whnf)) | ((with_reducible refine qbt (fun h => ?_) (fun h => ?_)) <;> first | contradiction | (conv => whnf)) | (refine ⟨(rfl : qac _ = true), rfl, ?_⟩; conv => whnf) | ((with_reducible refine qad ?_ ?_); conv => whnf) | ((with_reducible refine pcI (g := 84) ?_); refine ⟨_, qdi .., rfl, ?_⟩; rotate_right; conv => whnf))
  all_goals (repeat (clear hK; clear K1))
  all_goals first
    | exact congrArg Dat.i (sg_no h)
    | (have hw0 : wordP w a = true := by assumption
       obtain ⟨hw, h0, h1⟩ := qax hw0
       have F := wf hw
       have F1 := F.lo
       have F3 := fdiv_01 hw0
       try simp only [F.wm, F.um, F.u, F.s, F.mn] at *
       first | omega | exact congrArg Dat.i (sg_lo hw0 (by omega)) | exact congrArg Dat.i (sg_hi hw0 (by omega)))
def qdo (op w a b : Int) : Int :=
  if op = 13 then qb9 w (Int.fdiv (qcc w a) (2 ^ min (if w - 1 < b then w - 1 else b).toNat IntKind.i64.bits))
  else if w ≤ b then 0
  else if op = 11 then qb9 w (IntKind.i64.wrap (a * 2 ^ min b.toNat IntKind.i64.bits))
  else Int.fdiv a (2 ^ min b.toNat IntKind.i64.bits)
theorem qor (op w a b : Int) (hw : inP w 1 16 = true) (h0 : 0 ≤ b) (h1 : b ≤ 65536) : CallsV Tryz.prog 208 [.dat (.i op), .dat (.i w), .dat (.i a), .dat (.i b)] (.dat (.i (qdo op w a b))) := by
  refine CallsV.of_awp qaf qag Tryz.func208 rfl rfl rfl ?_
  conv => whnf
  repeat' (first | ((with_reducible first | refine fun (K1 : AX → AState → Prop) hK => ?_ | (show K1 _ _; subst hK)); conv => whnf) | ((with_reducible first | refine qbe (fun h => ?_) (fun h => ?_) | refine qcb (fun h => ?_) (fun h => ?_)) <;> first | contradiction | (subst h; conv => whnf) | (conv => whnf)) | (refine ⟨(rfl : qac _ = true), rfl, ?_⟩; conv => whnf) | ((with_reducible refine qad ?_ ?_); conv => whnf) | ((first | ((with_reducible refine pcI (g := 206) ?_); refine ⟨_, qin .., rfl, ?_⟩) | ((with_reducible refine pcI (g := 207) ?_); refine ⟨_, qhq .., rfl, ?_⟩)); rotate_right; conv => whnf))
  all_goals (repeat (clear hK; clear K1))
  all_goals first
    | (simp [qdo, *]; done)
    | (have hn : w ≤ b := by omega
       simp [qdo, hn, *]; done)
    | (have hn : ¬ w ≤ b := by omega
       rw [qii h0 (by omega)]
       first
         | omega
         | (simp [qdo, *]; done))
    | (have F := wf hw
       have F1 := F.lo
       simp only [F.wm]
       rw [qii (by split <;> omega) (by split <;> omega)]
       first | (simp [qdo]; done) | (split <;> omega))
def qba (op w a b : Int) : Int :=
  if (wordP w a && wordP w b) = true then
    if op = 3 then qb9 w (IntKind.i64.wrap (a + b))
    else if op = 4 then qb9 w (IntKind.i64.wrap (a - b))
    else if op = 5 then qb9 w (IntKind.i64.wrap (a * b))
    else if op = 6 then (if b = 0 then 2 ^ w.toNat - 1 else IntKind.i64.wrap (a.tdiv b))
    else if op = 7 then (if b = 0 then a else a.tmod b)
    else if op = 8 then IntKind.i64.wrap (BitVec.ofInt IntKind.i64.bits a &&& BitVec.ofInt IntKind.i64.bits b).toNat
    else if op = 9 then IntKind.i64.wrap (BitVec.ofInt IntKind.i64.bits a ||| BitVec.ofInt IntKind.i64.bits b).toNat
    else if op = 10 then IntKind.i64.wrap (BitVec.ofInt IntKind.i64.bits a ^^^ BitVec.ofInt IntKind.i64.bits b).toNat
    else if op = 11 ∨ op = 12 ∨ op = 13 then qdo op w a b
    else if op = 14 then qda (a == b)
    else if op = 15 then qda (decide (a < b))
    else if op = 16 then qda (decide (qcc w a < qcc w b))
    else -1
  else -1
theorem sar_e {w a b : Int} (ha : wordP w a = true) (hb : wordP w b = true) : qba 13 w a b = qdo 13 w a b := by simp [qba, ha, hb]
theorem sar_hi {w a b : Int} (ha : wordP w a = true) (hb : wordP w b = true) (h : w ≤ b) : qba 13 w a b = qb9 w (Int.fdiv (qcc w a) (2 ^ (w - 1).toNat)) := by
  rw [sar_e ha hb]
  unfold qdo
  rw [if_pos rfl, if_pos (by omega), (wf (qax ha).1).mn]
theorem sar_lo {w a b : Int} (ha : wordP w a = true) (hb : wordP w b = true) (h : ¬ w ≤ b) : qba 13 w a b = qb9 w (Int.fdiv (qcc w a) (2 ^ min b.toNat IntKind.i64.bits)) := by
  rw [sar_e ha hb]
  unfold qdo
  rw [if_pos rfl, if_neg (by omega)]
theorem s_ApplyBinary (op w a b : Int) : CallsV Tryz.prog 198 [.dat (.i op), .dat (.i w), .dat (.i a), .dat (.i b)] (.dat (.i (qba op w a b))) := by
  refine CallsV.of_awp qaf qag Tryz.func198 rfl rfl rfl ?_
  conv => whnf
  repeat' (first | ((with_reducible first | refine fun (K1 : AX → AState → Prop) hK => ?_ | (show K1 _ _; subst hK) | refine sp_T ?_ | refine sp_T' ?_ | refine sp_F' ?_); conv => whnf) | ((with_reducible first | refine qbe (fun h => ?_) (fun h => ?_) | refine qcb (fun h => ?_) (fun h => ?_)) <;> first | contradiction | (subst h; conv => whnf) | (conv => whnf)) | ((with_reducible first | refine qbt (fun h => ?_) (fun h => ?_) | refine qcq (fun h => ?_) (fun h => ?_)) <;> first | contradiction | (conv => whnf)) | (refine ⟨(rfl : qac _ = true), rfl, ?_⟩; conv => whnf) | ((with_reducible refine qad ?_ ?_); conv => whnf) | ((first | ((with_reducible refine pcI (g := 74) ?_); refine ⟨_, qdp .., rfl, ?_⟩) | ((with_reducible refine pcI (g := 213) ?_); refine ⟨_, qik .., rfl, ?_⟩) | ((with_reducible refine pcI (g := 214) ?_); refine ⟨_, qkm .., rfl, ?_⟩) | ((with_reducible refine pcI (g := 215) ?_); refine ⟨_, s_l01Truth .., rfl, ?_⟩)); rotate_right; conv => whnf) | (intro h; conv => whnf))
  all_goals (repeat (clear hK; clear K1))
  all_goals first
    | (simp [qba, *]; done)
    | (have h00 : wordP w 0 = true := by assumption
       have ha : wordP w a = true := by assumption
       obtain ⟨hw, a0, a1⟩ := qax ha
       have F := wf hw
       have F1 := F.lo
       have F2 := F.s2
       have F3 := F.s3
       have F5 : IntKind.i64.wrap (2 ^ w.toNat - 1) = 2 ^ w.toNat - 1 := qah (by omega) (by omega)
       try simp only [F.s, F5] at *
       first
         | omega
         | (simp [qba, *]; done))
    | (have ha : wordP w a = true := by assumption
       have hb : wordP w b = true := by assumption
       obtain ⟨hw, a0, a1⟩ := qax ha
       obtain ⟨_, b0, b1⟩ := qax hb
       have F := wf hw
       have F1 := F.lo
       have F2 := F.s2
       have F3 := F.s3
       have F4 := F.hi
       have F5 : IntKind.i64.wrap (2 ^ w.toNat - 1) = 2 ^ w.toNat - 1 := qah (by omega) (by omega)
       try simp only [F.wm, F.mn, F5] at *
       first
         | omega
         | assumption
         | exact congrArg Dat.i (sar_hi ha hb (by omega))
         | exact congrArg Dat.i (sar_lo ha hb (by omega))
         | (simp [qba, *]; done)
         | (have hn : w ≤ b := by omega
            have hn' : w - 1 < b := by omega
            simp [qba, qdo, *]; done)
         | (have hn : ¬ w ≤ b := by omega
            have hn' : ¬ w - 1 < b := by omega
            simp [qba, qdo, *]; done))
theorem i_ApplyBinary (op w a b : Int) : CallsV Tryz.prog 188 [.dat (.i op), .dat (.i w), .dat (.i a), .dat (.i b)] (.dat (.i (qba op w a b))) := by
  refine CallsV.of_awp qaf qag Tryz.func188 rfl rfl rfl ?_
  conv => whnf
  repeat' (first | ((with_reducible first | refine fun (K1 : AX → AState → Prop) hK => ?_ | (show K1 _ _; subst hK) | refine sp_T ?_ | refine sp_T' ?_ | refine sp_F' ?_ | refine sp_eT ?_); conv => whnf) | ((with_reducible refine qcb (fun h => ?_) (fun h => ?_)) <;> first | contradiction | (subst h; conv => whnf) | (conv => whnf)) | ((with_reducible first | refine qbt (fun h => ?_) (fun h => ?_) | refine qcq (fun h => ?_) (fun h => ?_)) <;> first | contradiction | (conv => whnf)) | (refine ⟨(rfl : qac _ = true), rfl, ?_⟩; conv => whnf) | ((with_reducible refine qad ?_ ?_); conv => whnf) | ((first | ((with_reducible refine pcI (g := 84) ?_); refine ⟨_, qdi .., rfl, ?_⟩) | ((with_reducible refine pcI (g := 206) ?_); refine ⟨_, qin .., rfl, ?_⟩) | ((with_reducible refine pcI (g := 208) ?_); refine ⟨_, qor (hw := ?_) (h0 := ?_) (h1 := ?_) .., rfl, ?_⟩) | ((with_reducible refine pcI (g := 209) ?_); refine ⟨_, i_boolWord .., rfl, ?_⟩) | ((with_reducible refine pcI (g := 207) ?_); refine ⟨_, qhq .., rfl, ?_⟩)); rotate_right; conv => whnf) | (intro h; conv => whnf))
  all_goals (repeat (clear hK; clear K1))
  all_goals first
    | (simp [qba, *]; done)
    | (have h00 : wordP w 0 = true := by assumption
       have ha : wordP w a = true := by assumption
       obtain ⟨hw, a0, a1⟩ := qax ha
       have F := wf hw
       have F1 := F.lo
       have F2 := F.s2
       have F3 := F.s3
       have F5 : IntKind.i64.wrap (2 ^ w.toNat - 1) = 2 ^ w.toNat - 1 := qah (by omega) (by omega)
       try simp only [F.u, F.s, F5] at *
       first
         | omega
         | (simp [qba, *]; done))
    | (have ha : wordP w a = true := by assumption
       have hb : wordP w b = true := by assumption
       obtain ⟨hw, a0, a1⟩ := qax ha
       obtain ⟨_, b0, b1⟩ := qax hb
       have F := wf hw
       have F1 := F.lo
       have F2 := F.s2
       have F3 := F.s3
       have F4 := F.hi
       have F5 : IntKind.i64.wrap (2 ^ w.toNat - 1) = 2 ^ w.toNat - 1 := qah (by omega) (by omega)
       try simp only [F5] at *
       first
         | omega
         | assumption
         | (simp [qba, *]; done)
         | (have hn : w ≤ b := by omega
            have hn' : w - 1 < b := by omega
            simp [qba, qdo, hn, hn', *]; done)
         | (have hn : ¬ w ≤ b := by omega
            have hn' : ¬ w - 1 < b := by omega
            simp [qba, qdo, hn, hn', *]; done))
def qdx (op w a : Int) : Int :=
  if wordP w a = true then (if op = 1 then 2 ^ w.toNat - 1 - a else if op = 2 then qb9 w (IntKind.i64.wrap (0 - a)) else -1) else -1
theorem s_ApplyUnary (op w a : Int) : CallsV Tryz.prog 197 [.dat (.i op), .dat (.i w), .dat (.i a)] (.dat (.i (qdx op w a))) := by
  refine CallsV.of_awp qaf qag Tryz.func197 rfl rfl rfl ?_
  conv => whnf
  repeat' (first | ((with_reducible first | refine fun (K1 : AX → AState → Prop) hK => ?_ | (show K1 _ _; subst hK)); conv => whnf) | ((with_reducible refine qcb (fun h => ?_) (fun h => ?_)) <;> first | contradiction | (subst h; conv => whnf) | (conv => whnf)) | ((with_reducible refine qbt (fun h => ?_) (fun h => ?_)) <;> first | contradiction | (conv => whnf)) | (refine ⟨(rfl : qac _ = true), rfl, ?_⟩; conv => whnf) | ((with_reducible refine qad ?_ ?_); conv => whnf) | ((first | ((with_reducible refine pcI (g := 74) ?_); refine ⟨_, qdp .., rfl, ?_⟩) | ((with_reducible refine pcI (g := 213) ?_); refine ⟨_, qik .., rfl, ?_⟩)); rotate_right; conv => whnf))
  all_goals (repeat (clear hK; clear K1))
  all_goals first
    | (simp [qdx, *]; done)
    | (have ha : wordP w a = true := by assumption
       obtain ⟨hw, a0, a1⟩ := qax ha
       have F := wf hw
       have F1 := F.lo
       have F2 := F.s2
       have F3 := F.s3
       have F5 : IntKind.i64.wrap (2 ^ w.toNat - 1) = 2 ^ w.toNat - 1 := qah (by omega) (by omega)
       have F6 : IntKind.i64.wrap (2 ^ w.toNat - 1 - a) = 2 ^ w.toNat - 1 - a := qah (by omega) (by omega)
       try simp only [F.s, F5, F6] at *
       first | omega | (simp [qdx, *]; done))
theorem qni (op w a : Int) : CallsV Tryz.prog 184 [.dat (.i op), .dat (.i w), .dat (.i a)] (.dat (.i (qdx op w a))) := by
  refine CallsV.of_awp qaf qag Tryz.func184 rfl rfl rfl ?_
  conv => whnf
  repeat' (first | ((with_reducible first | refine fun (K1 : AX → AState → Prop) hK => ?_ | (show K1 _ _; subst hK)); conv => whnf) | ((with_reducible refine qcb (fun h => ?_) (fun h => ?_)) <;> first | contradiction | (subst h; conv => whnf) | (conv => whnf)) | ((with_reducible refine qbt (fun h => ?_) (fun h => ?_)) <;> first | contradiction | (conv => whnf)) | (refine ⟨(rfl : qac _ = true), rfl, ?_⟩; conv => whnf) | ((with_reducible refine qad ?_ ?_); conv => whnf) | ((first | ((with_reducible refine pcI (g := 84) ?_); refine ⟨_, qdi .., rfl, ?_⟩) | ((with_reducible refine pcI (g := 206) ?_); refine ⟨_, qin .., rfl, ?_⟩)); rotate_right; conv => whnf))
  all_goals (repeat (clear hK; clear K1))
  all_goals first
    | (simp [qdx, *]; done)
    | (have ha : wordP w a = true := by assumption
       obtain ⟨hw, a0, a1⟩ := qax ha
       have F := wf hw
       have F1 := F.lo
       have F2 := F.s2
       have F3 := F.s3
       have F5 : IntKind.i64.wrap (2 ^ w.toNat - 1) = 2 ^ w.toNat - 1 := qah (by omega) (by omega)
       have F6 : IntKind.i64.wrap (2 ^ w.toNat - 1 - a) = 2 ^ w.toNat - 1 - a := qah (by omega) (by omega)
       try simp only [F.u, F.s, F5, F6] at *
       first | omega | (simp [qdx, *]; done))
end Vg
