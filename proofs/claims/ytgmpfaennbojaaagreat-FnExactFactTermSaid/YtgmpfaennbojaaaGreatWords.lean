/- Words: contracts of the reference's and the program's functions that compute with them. No condition. -/
import Derived.Test.YtgmpfaennbojaaaGreatBase
namespace Vg
open Go Go.Proofs
theorem uw0 {b : Int} (h : inP b 0 15 = true) : IntKind.u64.wrap b = b := by
  have h' : 0 ≤ b ∧ b ≤ 15 := by simpa [inP] using h
  have h2 : b.toNat < 16 := by omega
  have e : b = (b.toNat : Int) := by omega
  rw [e]
  revert h2
  generalize b.toNat = k
  intro h
  have : ∀ k < 16, IntKind.u64.wrap ((k : Nat) : Int) = k := by decide
  exact this k h
def wordOfP (w n : Int) : Int := if inP w 1 16 = true then IntKind.i64.wrap (BitVec.ofInt IntKind.i64.bits n &&& BitVec.ofInt IntKind.i64.bits (2 ^ w.toNat - 1)).toNat else -1
theorem wordOf_no {w n : Int} (h : inP w 1 16 = false) : wordOfP w n = -1 := by
  unfold wordOfP
  rw [if_neg (by simp [h])]
theorem wordOf_yes {w n : Int} (h : inP w 1 16 = true) : wordOfP w n = IntKind.i64.wrap (BitVec.ofInt IntKind.i64.bits n &&& BitVec.ofInt IntKind.i64.bits (IntKind.i64.wrap (IntKind.i64.wrap (1 * 2 ^ min w.toNat IntKind.i64.bits) - 1))).toNat := by
  unfold wordOfP
  rw [if_pos h, shl1 h, top1 h]
set_option maxRecDepth 100000 in
theorem s_WordOf (w n : Int) : CallsV Tryz.prog 91 [.dat (.i w), .dat (.i n)] (.dat (.i (wordOfP w n))) := by
  refine CallsV.of_awp tauOk mixOk Tryz.func91 rfl rfl rfl ?_
  conv => whnf
  repeat' (first | ((with_reducible refine fun (K1 : AX → AState → Prop) hK => ?_); refine stK ⟨?_⟩) | ((with_reducible show K1 _ _); subst hK; conv => whnf) | (with_reducible exact rfl) | refine st0 ⟨?_⟩ | ((with_reducible refine SplS.mk (fun h => ?_) (fun h => ?_)) <;> first | exact ctA | (subst h; conv => whnf) | (conv => whnf)) | ((with_reducible refine SplB.mk (fun h => ?_) (fun h => ?_)) <;> first | exact ctA | (conv => whnf)) | ((with_reducible refine and_of ?_ ?_); conv => whnf) | ((with_reducible refine pcI (g := 38) ?_); refine ⟨_, s_l01In .., rfl, ?_⟩; rotate_right; conv => whnf) | ((with_reducible show Exists _); refine Exists.intro _ (And.intro (s_l01In ..) (And.intro rfl ?_)); rotate_right; conv => whnf) | (intro h; conv => whnf))
  all_goals (repeat (clear hK; clear K1))
  · rw [wordOf_no h]
  · rw [wordOf_yes h]
  · simp [inP] at h; omega
set_option maxRecDepth 100000 in
theorem i_WordOf (w n : Int) : CallsV Tryz.prog 108 [.dat (.i w), .dat (.i n)] (.dat (.i (wordOfP w n))) := by
  refine CallsV.of_awp tauOk mixOk Tryz.func108 rfl rfl rfl ?_
  conv => whnf
  repeat' (first | ((with_reducible refine fun (K1 : AX → AState → Prop) hK => ?_); refine stK ⟨?_⟩) | ((with_reducible show K1 _ _); subst hK; conv => whnf) | (with_reducible exact rfl) | refine st0 ⟨?_⟩ | ((with_reducible refine SplS.mk (fun h => ?_) (fun h => ?_)) <;> first | exact ctA | (subst h; conv => whnf) | (conv => whnf)) | ((with_reducible refine SplB.mk (fun h => ?_) (fun h => ?_)) <;> first | exact ctA | (conv => whnf)) | ((with_reducible refine and_of ?_ ?_); conv => whnf) | ((with_reducible refine pcI (g := 78) ?_); refine ⟨_, i_isWidth .., rfl, ?_⟩; rotate_right; conv => whnf) | ((with_reducible show Exists _); refine Exists.intro _ (And.intro (i_isWidth ..) (And.intro rfl ?_)); rotate_right; conv => whnf) | (intro h; conv => whnf))
  all_goals (repeat (clear hK; clear K1))
  · rw [wordOf_no h]
  · rw [wordOf_yes h, uw h]
  · rw [uw h]; simp [inP] at h; omega
def truthP (b : Bool) : Int := if b then 1 else 0
set_option maxRecDepth 100000 in
theorem s_l01Truth (b : Bool) : CallsV Tryz.prog 93 [.dat (.bool b)] (.dat (.i (truthP b))) := by
  refine CallsV.of_awp tauOk mixOk Tryz.func93 rfl rfl rfl ?_
  conv => whnf
  repeat' (first | ((with_reducible refine fun (K1 : AX → AState → Prop) hK => ?_); refine stK ⟨?_⟩) | ((with_reducible show K1 _ _); subst hK; conv => whnf) | (with_reducible exact rfl) | refine st0 ⟨?_⟩ | ((with_reducible refine SplS.mk (fun h => ?_) (fun h => ?_)) <;> first | exact ctA | (subst h; conv => whnf) | (conv => whnf)) | ((with_reducible refine SplB.mk (fun h => ?_) (fun h => ?_)) <;> first | exact ctA | (conv => whnf)) | (intro h; conv => whnf))
  all_goals (repeat (clear hK; clear K1))
  all_goals first | rfl | (simp [truthP, *]; done)
set_option maxRecDepth 100000 in
theorem i_boolWord (b : Bool) : CallsV Tryz.prog 111 [.dat (.bool b)] (.dat (.i (truthP b))) := by
  refine CallsV.of_awp tauOk mixOk Tryz.func111 rfl rfl rfl ?_
  conv => whnf
  repeat' (first | ((with_reducible refine fun (K1 : AX → AState → Prop) hK => ?_); refine stK ⟨?_⟩) | ((with_reducible show K1 _ _); subst hK; conv => whnf) | (with_reducible exact rfl) | refine st0 ⟨?_⟩ | ((with_reducible refine SplS.mk (fun h => ?_) (fun h => ?_)) <;> first | exact ctA | (subst h; conv => whnf) | (conv => whnf)) | ((with_reducible refine SplB.mk (fun h => ?_) (fun h => ?_)) <;> first | exact ctA | (conv => whnf)) | (intro h; conv => whnf))
  all_goals (repeat (clear hK; clear K1))
  all_goals first | rfl | (simp [truthP, *]; done)
structure WF (w : Int) : Prop where
  lo : 1 ≤ w
  hi : w ≤ 16
  wm : IntKind.i64.wrap (w - 1) = w - 1
  um : IntKind.u64.wrap (w - 1) = w - 1
  u : IntKind.u64.wrap w = w
  s : IntKind.i64.wrap (1 * 2 ^ min w.toNat IntKind.i64.bits) = 2 ^ w.toNat
  s2 : (2 : Int) ^ w.toNat ≤ 65536
  s3 : (2 : Int) ≤ 2 ^ w.toNat
  mn : min (w - 1).toNat IntKind.i64.bits = (w - 1).toNat
  half : (2 : Int) ^ w.toNat = 2 * 2 ^ (w - 1).toNat
theorem wf {w : Int} (h : inP w 1 16 = true) : WF w := by
  have hu := uw h
  have hs := shl1 h
  simp [inP] at h
  have h1 : (w.toNat : Int) = w := by omega
  have h2 : w.toNat ≤ 16 := by omega
  have h3 : 1 ≤ w.toNat := by omega
  have e : w = ((w.toNat : Nat) : Int) := h1.symm
  have h4 : (w - 1).toNat = w.toNat - 1 := by omega
  refine ⟨by omega, by omega, wrap_id (by omega) (by omega), ?_, hu, hs, ?_, ?_, ?_, ?_⟩
  · have : inP (w - 1) 0 15 = true := by simp [inP]; omega
    exact uw0 this
  · have : ∀ k ≤ 16, (2 : Int) ^ k ≤ 65536 := by decide
    exact this _ h2
  · have : ∀ k ≤ 16, 1 ≤ k → (2 : Int) ≤ 2 ^ k := by decide
    exact this _ h2 h3
  · have : IntKind.i64.bits = 64 := rfl
    omega
  · rw [h4]
    have : ∀ k ≤ 16, 1 ≤ k → (2 : Int) ^ k = 2 * 2 ^ (k - 1) := by decide
    exact this _ h2 h3
theorem word_lo {w a : Int} (h : wordP w a = true) : inP w 1 16 = true ∧ 0 ≤ a ∧ a < 2 ^ w.toNat := by
  simp only [wordP, Bool.and_eq_true] at h
  refine ⟨h.1, ?_⟩
  have := h.2
  simp [inP] at this
  omega
theorem word_of {w a : Int} (h : inP w 1 16 = true) (h0 : 0 ≤ a) (h1 : a < 2 ^ w.toNat) : wordP w a = true := by
  simp only [wordP, h, Bool.true_and]
  simp [inP]; omega
def signedP (w a : Int) : Int := if wordP w a = true then (if Int.fdiv a (2 ^ (w - 1).toNat) = 0 then a else a - 2 ^ w.toNat) else 0
theorem fdiv_01 {w a : Int} (h : wordP w a = true) : Int.fdiv a (2 ^ (w - 1).toNat) = 0 ∨ Int.fdiv a (2 ^ (w - 1).toNat) = 1 := by
  obtain ⟨hw, h0, h1⟩ := word_lo h
  have F := wf hw
  have hp : (0 : Int) < 2 ^ (w - 1).toNat := by have := F.half; have := F.s3; omega
  rw [Int.fdiv_eq_ediv_of_nonneg _ (Int.le_of_lt hp)]
  have h2 : a < 2 * 2 ^ (w - 1).toNat := by rw [← F.half]; exact h1
  have h3 : a / 2 ^ (w - 1).toNat < 2 := Int.ediv_lt_of_lt_mul hp h2
  have h4 : 0 ≤ a / 2 ^ (w - 1).toNat := Int.ediv_nonneg h0 (Int.le_of_lt hp)
  omega
theorem wrapU_id {n : Int} (h1 : 0 ≤ n) (h2 : n < 18446744073709551616) : IntKind.u64.wrap n = n := by
  simp only [IntKind.wrap]
  have e1 : (2 : Int) ^ IntKind.u64.bits = 18446744073709551616 := rfl
  have e3 : IntKind.u64.signed = false := rfl
  simp only [e1, e3]
  simp
  omega
theorem sg_no {w a : Int} (h : wordP w a = false) : signedP w a = 0 := by simp [signedP, h]
theorem sg_lo {w a : Int} (h : wordP w a = true) (h1 : Int.fdiv a (2 ^ (w - 1).toNat) = 0) : signedP w a = a := by
  unfold signedP
  rw [if_pos h, if_pos h1]
theorem sg_hi {w a : Int} (h : wordP w a = true) (h1 : ¬ Int.fdiv a (2 ^ (w - 1).toNat) = 0) : signedP w a = IntKind.i64.wrap (a - 2 ^ w.toNat) := by
  obtain ⟨hw, h0, h2⟩ := word_lo h
  have F := wf hw
  have := F.s2
  have := F.s3
  rw [wrap_id (by omega) (by omega)]
  unfold signedP
  rw [if_pos h, if_neg h1]
set_option maxRecDepth 100000 in
theorem s_SignedOf (w a : Int) : CallsV Tryz.prog 92 [.dat (.i w), .dat (.i a)] (.dat (.i (signedP w a))) := by
  refine CallsV.of_awp tauOk mixOk Tryz.func92 rfl rfl rfl ?_
  conv => whnf
  repeat' (first | ((with_reducible refine fun (K1 : AX → AState → Prop) hK => ?_); refine stK ⟨?_⟩) | ((with_reducible show K1 _ _); subst hK; conv => whnf) | (with_reducible exact rfl) | refine st0 ⟨?_⟩ | ((with_reducible refine SplS.mk (fun h => ?_) (fun h => ?_)) <;> first | exact ctA | (subst h; conv => whnf) | (conv => whnf)) | ((with_reducible refine SplB.mk (fun h => ?_) (fun h => ?_)) <;> first | exact ctA | (conv => whnf)) | ((with_reducible refine and_of ?_ ?_); conv => whnf) | ((with_reducible refine pcI (g := 37) ?_); refine ⟨_, s_WordOk .., rfl, ?_⟩; rotate_right; conv => whnf) | ((with_reducible show Exists _); refine Exists.intro _ (And.intro (s_WordOk ..) (And.intro rfl ?_)); rotate_right; conv => whnf) | (intro h; conv => whnf))
  all_goals (repeat (clear hK; clear K1))
  all_goals first
    | exact congrArg Dat.i (sg_no h)
    | (have hw0 : wordP w a = true := by assumption
       obtain ⟨hw, h0, h1⟩ := word_lo hw0
       have F := wf hw
       have F1 := F.lo
       have F3 := fdiv_01 hw0
       try simp only [F.wm, F.s, F.mn] at *
       first | omega | exact congrArg Dat.i (sg_lo hw0 (by omega)) | exact congrArg Dat.i (sg_hi hw0 (by omega)))
set_option maxRecDepth 100000 in
theorem i_SignedOf (w a : Int) : CallsV Tryz.prog 109 [.dat (.i w), .dat (.i a)] (.dat (.i (signedP w a))) := by
  refine CallsV.of_awp tauOk mixOk Tryz.func109 rfl rfl rfl ?_
  conv => whnf
  repeat' (first | ((with_reducible refine fun (K1 : AX → AState → Prop) hK => ?_); refine stK ⟨?_⟩) | ((with_reducible show K1 _ _); subst hK; conv => whnf) | (with_reducible exact rfl) | refine st0 ⟨?_⟩ | ((with_reducible refine SplS.mk (fun h => ?_) (fun h => ?_)) <;> first | exact ctA | (subst h; conv => whnf) | (conv => whnf)) | ((with_reducible refine SplB.mk (fun h => ?_) (fun h => ?_)) <;> first | exact ctA | (conv => whnf)) | ((with_reducible refine and_of ?_ ?_); conv => whnf) | ((with_reducible refine pcI (g := 61) ?_); refine ⟨_, i_WordOk .., rfl, ?_⟩; rotate_right; conv => whnf) | ((with_reducible show Exists _); refine Exists.intro _ (And.intro (i_WordOk ..) (And.intro rfl ?_)); rotate_right; conv => whnf) | (intro h; conv => whnf))
  all_goals (repeat (clear hK; clear K1))
  all_goals first
    | exact congrArg Dat.i (sg_no h)
    | (have hw0 : wordP w a = true := by assumption
       obtain ⟨hw, h0, h1⟩ := word_lo hw0
       have F := wf hw
       have F1 := F.lo
       have F3 := fdiv_01 hw0
       try simp only [F.wm, F.um, F.u, F.s, F.mn] at *
       first | omega | exact congrArg Dat.i (sg_lo hw0 (by omega)) | exact congrArg Dat.i (sg_hi hw0 (by omega)))
def shiftP (op w a b : Int) : Int :=
  if op = 13 then wordOfP w (Int.fdiv (signedP w a) (2 ^ min (if w - 1 < b then w - 1 else b).toNat IntKind.i64.bits))
  else if w ≤ b then 0
  else if op = 11 then wordOfP w (IntKind.i64.wrap (a * 2 ^ min b.toNat IntKind.i64.bits))
  else Int.fdiv a (2 ^ min b.toNat IntKind.i64.bits)
set_option maxRecDepth 100000 in
theorem i_shiftWord (op w a b : Int) (hw : inP w 1 16 = true) (h0 : 0 ≤ b) (h1 : b ≤ 65536) : CallsV Tryz.prog 110 [.dat (.i op), .dat (.i w), .dat (.i a), .dat (.i b)] (.dat (.i (shiftP op w a b))) := by
  refine CallsV.of_awp tauOk mixOk Tryz.func110 rfl rfl rfl ?_
  conv => whnf
  repeat' (first | ((with_reducible refine fun (K1 : AX → AState → Prop) hK => ?_); refine stK ⟨?_⟩) | ((with_reducible show K1 _ _); subst hK; conv => whnf) | (with_reducible exact rfl) | refine st0 ⟨?_⟩ | ((with_reducible refine SplS.mk (fun h => ?_) (fun h => ?_)) <;> first | exact ctA | (subst h; conv => whnf) | (conv => whnf)) | ((with_reducible refine SplB.mk (fun h => ?_) (fun h => ?_)) <;> first | exact ctA | (conv => whnf)) | ((with_reducible refine and_of ?_ ?_); conv => whnf) | ((with_reducible refine pcI (g := 108) ?_); refine ⟨_, i_WordOf .., rfl, ?_⟩; rotate_right; conv => whnf) | ((with_reducible show Exists _); refine Exists.intro _ (And.intro (i_WordOf ..) (And.intro rfl ?_)); rotate_right; conv => whnf) | ((with_reducible refine pcI (g := 109) ?_); refine ⟨_, i_SignedOf .., rfl, ?_⟩; rotate_right; conv => whnf) | ((with_reducible show Exists _); refine Exists.intro _ (And.intro (i_SignedOf ..) (And.intro rfl ?_)); rotate_right; conv => whnf) | (intro h; conv => whnf))
  all_goals (repeat (clear hK; clear K1))
  all_goals first
    | (simp [shiftP, *]; done)
    | (have hn : w ≤ b := by omega
       simp [shiftP, hn, *]; done)
    | (have hn : ¬ w ≤ b := by omega
       rw [wrapU_id h0 (by omega)]
       first
         | omega
         | (simp [shiftP, *]; done))
    | (have F := wf hw
       have F1 := F.lo
       simp only [F.wm]
       rw [wrapU_id (by split <;> omega) (by split <;> omega)]
       first | (simp [shiftP]; done) | (split <;> omega))
def applyB (op w a b : Int) : Int :=
  if (wordP w a && wordP w b) = true then
    if op = 3 then wordOfP w (IntKind.i64.wrap (a + b))
    else if op = 4 then wordOfP w (IntKind.i64.wrap (a - b))
    else if op = 5 then wordOfP w (IntKind.i64.wrap (a * b))
    else if op = 6 then (if b = 0 then 2 ^ w.toNat - 1 else IntKind.i64.wrap (a.tdiv b))
    else if op = 7 then (if b = 0 then a else a.tmod b)
    else if op = 8 then IntKind.i64.wrap (BitVec.ofInt IntKind.i64.bits a &&& BitVec.ofInt IntKind.i64.bits b).toNat
    else if op = 9 then IntKind.i64.wrap (BitVec.ofInt IntKind.i64.bits a ||| BitVec.ofInt IntKind.i64.bits b).toNat
    else if op = 10 then IntKind.i64.wrap (BitVec.ofInt IntKind.i64.bits a ^^^ BitVec.ofInt IntKind.i64.bits b).toNat
    else if op = 11 ∨ op = 12 ∨ op = 13 then shiftP op w a b
    else if op = 14 then truthP (a == b)
    else if op = 15 then truthP (decide (a < b))
    else if op = 16 then truthP (decide (signedP w a < signedP w b))
    else -1
  else -1
theorem sar_e {w a b : Int} (ha : wordP w a = true) (hb : wordP w b = true) : applyB 13 w a b = shiftP 13 w a b := by simp [applyB, ha, hb]
theorem sar_hi {w a b : Int} (ha : wordP w a = true) (hb : wordP w b = true) (h : w ≤ b) : applyB 13 w a b = wordOfP w (Int.fdiv (signedP w a) (2 ^ (w - 1).toNat)) := by
  rw [sar_e ha hb]
  unfold shiftP
  rw [if_pos rfl, if_pos (by omega), (wf (word_lo ha).1).mn]
theorem sar_lo {w a b : Int} (ha : wordP w a = true) (hb : wordP w b = true) (h : ¬ w ≤ b) : applyB 13 w a b = wordOfP w (Int.fdiv (signedP w a) (2 ^ min b.toNat IntKind.i64.bits)) := by
  rw [sar_e ha hb]
  unfold shiftP
  rw [if_pos rfl, if_neg (by omega)]
set_option maxHeartbeats 2000000 in
set_option maxRecDepth 100000 in
theorem s_ApplyBinary (op w a b : Int) : CallsV Tryz.prog 69 [.dat (.i op), .dat (.i w), .dat (.i a), .dat (.i b)] (.dat (.i (applyB op w a b))) := by
  refine CallsV.of_awp tauOk mixOk Tryz.func69 rfl rfl rfl ?_
  conv => whnf
  repeat' (first | ((with_reducible refine fun (K1 : AX → AState → Prop) hK => ?_); refine stK ⟨?_⟩) | ((with_reducible show K1 _ _); subst hK; conv => whnf) | (with_reducible exact rfl) | refine st0 ⟨?_⟩ | ((with_reducible refine SplS.mk (fun h => ?_) (fun h => ?_)) <;> first | exact ctA | (subst h; conv => whnf) | (conv => whnf)) | ((with_reducible refine SplB.mk (fun h => ?_) (fun h => ?_)) <;> first | exact ctA | (conv => whnf)) | ((with_reducible refine and_of ?_ ?_); conv => whnf) | ((with_reducible refine pcI (g := 37) ?_); refine ⟨_, s_WordOk .., rfl, ?_⟩; rotate_right; conv => whnf) | ((with_reducible show Exists _); refine Exists.intro _ (And.intro (s_WordOk ..) (And.intro rfl ?_)); rotate_right; conv => whnf) | ((with_reducible refine pcI (g := 91) ?_); refine ⟨_, s_WordOf .., rfl, ?_⟩; rotate_right; conv => whnf) | ((with_reducible show Exists _); refine Exists.intro _ (And.intro (s_WordOf ..) (And.intro rfl ?_)); rotate_right; conv => whnf) | ((with_reducible refine pcI (g := 92) ?_); refine ⟨_, s_SignedOf .., rfl, ?_⟩; rotate_right; conv => whnf) | ((with_reducible show Exists _); refine Exists.intro _ (And.intro (s_SignedOf ..) (And.intro rfl ?_)); rotate_right; conv => whnf) | ((with_reducible refine pcI (g := 93) ?_); refine ⟨_, s_l01Truth .., rfl, ?_⟩; rotate_right; conv => whnf) | ((with_reducible show Exists _); refine Exists.intro _ (And.intro (s_l01Truth ..) (And.intro rfl ?_)); rotate_right; conv => whnf) | (intro h; conv => whnf))
  all_goals (repeat (clear hK; clear K1))
  all_goals first
    | (simp [applyB, *]; done)
    | (have h00 : wordP w 0 = true := by assumption
       have ha : wordP w a = true := by assumption
       obtain ⟨hw, a0, a1⟩ := word_lo ha
       have F := wf hw
       have F1 := F.lo
       have F2 := F.s2
       have F3 := F.s3
       have F5 : IntKind.i64.wrap (2 ^ w.toNat - 1) = 2 ^ w.toNat - 1 := wrap_id (by omega) (by omega)
       try simp only [F.s, F5] at *
       first
         | omega
         | (simp [applyB, *]; done))
    | (have ha : wordP w a = true := by assumption
       have hb : wordP w b = true := by assumption
       obtain ⟨hw, a0, a1⟩ := word_lo ha
       obtain ⟨_, b0, b1⟩ := word_lo hb
       have F := wf hw
       have F1 := F.lo
       have F2 := F.s2
       have F3 := F.s3
       have F4 := F.hi
       have F5 : IntKind.i64.wrap (2 ^ w.toNat - 1) = 2 ^ w.toNat - 1 := wrap_id (by omega) (by omega)
       try simp only [F.wm, F.mn, F5] at *
       first
         | omega
         | assumption
         | exact congrArg Dat.i (sar_hi ha hb (by omega))
         | exact congrArg Dat.i (sar_lo ha hb (by omega))
         | (simp [applyB, *]; done)
         | (have hn : w ≤ b := by omega
            have hn' : w - 1 < b := by omega
            simp [applyB, shiftP, *]; done)
         | (have hn : ¬ w ≤ b := by omega
            have hn' : ¬ w - 1 < b := by omega
            simp [applyB, shiftP, *]; done))
set_option maxHeartbeats 2000000 in
set_option maxRecDepth 100000 in
theorem i_ApplyBinary (op w a b : Int) : CallsV Tryz.prog 101 [.dat (.i op), .dat (.i w), .dat (.i a), .dat (.i b)] (.dat (.i (applyB op w a b))) := by
  refine CallsV.of_awp tauOk mixOk Tryz.func101 rfl rfl rfl ?_
  conv => whnf
  repeat' (first | ((with_reducible refine fun (K1 : AX → AState → Prop) hK => ?_); refine stK ⟨?_⟩) | ((with_reducible show K1 _ _); subst hK; conv => whnf) | (with_reducible exact rfl) | refine st0 ⟨?_⟩ | ((with_reducible refine SplS.mk (fun h => ?_) (fun h => ?_)) <;> first | exact ctA | (subst h; conv => whnf) | (conv => whnf)) | ((with_reducible refine SplB.mk (fun h => ?_) (fun h => ?_)) <;> first | exact ctA | (conv => whnf)) | ((with_reducible refine and_of ?_ ?_); conv => whnf) | ((with_reducible refine pcI (g := 61) ?_); refine ⟨_, i_WordOk .., rfl, ?_⟩; rotate_right; conv => whnf) | ((with_reducible show Exists _); refine Exists.intro _ (And.intro (i_WordOk ..) (And.intro rfl ?_)); rotate_right; conv => whnf) | ((with_reducible refine pcI (g := 108) ?_); refine ⟨_, i_WordOf .., rfl, ?_⟩; rotate_right; conv => whnf) | ((with_reducible show Exists _); refine Exists.intro _ (And.intro (i_WordOf ..) (And.intro rfl ?_)); rotate_right; conv => whnf) | ((with_reducible refine pcI (g := 110) ?_); refine ⟨_, i_shiftWord (hw := ?_) (h0 := ?_) (h1 := ?_) .., rfl, ?_⟩; rotate_right; conv => whnf) | ((with_reducible show Exists _); refine Exists.intro _ (And.intro (i_shiftWord (hw := ?_) (h0 := ?_) (h1 := ?_) ..) (And.intro rfl ?_)); rotate_right; conv => whnf) | ((with_reducible refine pcI (g := 111) ?_); refine ⟨_, i_boolWord .., rfl, ?_⟩; rotate_right; conv => whnf) | ((with_reducible show Exists _); refine Exists.intro _ (And.intro (i_boolWord ..) (And.intro rfl ?_)); rotate_right; conv => whnf) | ((with_reducible refine pcI (g := 109) ?_); refine ⟨_, i_SignedOf .., rfl, ?_⟩; rotate_right; conv => whnf) | ((with_reducible show Exists _); refine Exists.intro _ (And.intro (i_SignedOf ..) (And.intro rfl ?_)); rotate_right; conv => whnf) | (intro h; conv => whnf))
  all_goals (repeat (clear hK; clear K1))
  all_goals first
    | (simp [applyB, *]; done)
    | (have h00 : wordP w 0 = true := by assumption
       have ha : wordP w a = true := by assumption
       obtain ⟨hw, a0, a1⟩ := word_lo ha
       have F := wf hw
       have F1 := F.lo
       have F2 := F.s2
       have F3 := F.s3
       have F5 : IntKind.i64.wrap (2 ^ w.toNat - 1) = 2 ^ w.toNat - 1 := wrap_id (by omega) (by omega)
       try simp only [F.u, F.s, F5] at *
       first
         | omega
         | (simp [applyB, *]; done))
    | (have ha : wordP w a = true := by assumption
       have hb : wordP w b = true := by assumption
       obtain ⟨hw, a0, a1⟩ := word_lo ha
       obtain ⟨_, b0, b1⟩ := word_lo hb
       have F := wf hw
       have F1 := F.lo
       have F2 := F.s2
       have F3 := F.s3
       have F4 := F.hi
       have F5 : IntKind.i64.wrap (2 ^ w.toNat - 1) = 2 ^ w.toNat - 1 := wrap_id (by omega) (by omega)
       try simp only [F5] at *
       first
         | omega
         | assumption
         | (simp [applyB, *]; done)
         | (have hn : w ≤ b := by omega
            have hn' : w - 1 < b := by omega
            simp [applyB, shiftP, hn, hn', *]; done)
         | (have hn : ¬ w ≤ b := by omega
            have hn' : ¬ w - 1 < b := by omega
            simp [applyB, shiftP, hn, hn', *]; done))
def applyU (op w a : Int) : Int :=
  if wordP w a = true then (if op = 1 then 2 ^ w.toNat - 1 - a else if op = 2 then wordOfP w (IntKind.i64.wrap (0 - a)) else -1) else -1
set_option maxRecDepth 100000 in
theorem s_ApplyUnary (op w a : Int) : CallsV Tryz.prog 68 [.dat (.i op), .dat (.i w), .dat (.i a)] (.dat (.i (applyU op w a))) := by
  refine CallsV.of_awp tauOk mixOk Tryz.func68 rfl rfl rfl ?_
  conv => whnf
  repeat' (first | ((with_reducible refine fun (K1 : AX → AState → Prop) hK => ?_); refine stK ⟨?_⟩) | ((with_reducible show K1 _ _); subst hK; conv => whnf) | (with_reducible exact rfl) | refine st0 ⟨?_⟩ | ((with_reducible refine SplS.mk (fun h => ?_) (fun h => ?_)) <;> first | exact ctA | (subst h; conv => whnf) | (conv => whnf)) | ((with_reducible refine SplB.mk (fun h => ?_) (fun h => ?_)) <;> first | exact ctA | (conv => whnf)) | ((with_reducible refine and_of ?_ ?_); conv => whnf) | ((with_reducible refine pcI (g := 37) ?_); refine ⟨_, s_WordOk .., rfl, ?_⟩; rotate_right; conv => whnf) | ((with_reducible show Exists _); refine Exists.intro _ (And.intro (s_WordOk ..) (And.intro rfl ?_)); rotate_right; conv => whnf) | ((with_reducible refine pcI (g := 91) ?_); refine ⟨_, s_WordOf .., rfl, ?_⟩; rotate_right; conv => whnf) | ((with_reducible show Exists _); refine Exists.intro _ (And.intro (s_WordOf ..) (And.intro rfl ?_)); rotate_right; conv => whnf) | (intro h; conv => whnf))
  all_goals (repeat (clear hK; clear K1))
  all_goals first
    | (simp [applyU, *]; done)
    | (have ha : wordP w a = true := by assumption
       obtain ⟨hw, a0, a1⟩ := word_lo ha
       have F := wf hw
       have F1 := F.lo
       have F2 := F.s2
       have F3 := F.s3
       have F5 : IntKind.i64.wrap (2 ^ w.toNat - 1) = 2 ^ w.toNat - 1 := wrap_id (by omega) (by omega)
       have F6 : IntKind.i64.wrap (2 ^ w.toNat - 1 - a) = 2 ^ w.toNat - 1 - a := wrap_id (by omega) (by omega)
       try simp only [F.s, F5, F6] at *
       first | omega | (simp [applyU, *]; done))
set_option maxRecDepth 100000 in
theorem i_ApplyUnary (op w a : Int) : CallsV Tryz.prog 97 [.dat (.i op), .dat (.i w), .dat (.i a)] (.dat (.i (applyU op w a))) := by
  refine CallsV.of_awp tauOk mixOk Tryz.func97 rfl rfl rfl ?_
  conv => whnf
  repeat' (first | ((with_reducible refine fun (K1 : AX → AState → Prop) hK => ?_); refine stK ⟨?_⟩) | ((with_reducible show K1 _ _); subst hK; conv => whnf) | (with_reducible exact rfl) | refine st0 ⟨?_⟩ | ((with_reducible refine SplS.mk (fun h => ?_) (fun h => ?_)) <;> first | exact ctA | (subst h; conv => whnf) | (conv => whnf)) | ((with_reducible refine SplB.mk (fun h => ?_) (fun h => ?_)) <;> first | exact ctA | (conv => whnf)) | ((with_reducible refine and_of ?_ ?_); conv => whnf) | ((with_reducible refine pcI (g := 61) ?_); refine ⟨_, i_WordOk .., rfl, ?_⟩; rotate_right; conv => whnf) | ((with_reducible show Exists _); refine Exists.intro _ (And.intro (i_WordOk ..) (And.intro rfl ?_)); rotate_right; conv => whnf) | ((with_reducible refine pcI (g := 108) ?_); refine ⟨_, i_WordOf .., rfl, ?_⟩; rotate_right; conv => whnf) | ((with_reducible show Exists _); refine Exists.intro _ (And.intro (i_WordOf ..) (And.intro rfl ?_)); rotate_right; conv => whnf) | (intro h; conv => whnf))
  all_goals (repeat (clear hK; clear K1))
  all_goals first
    | (simp [applyU, *]; done)
    | (have ha : wordP w a = true := by assumption
       obtain ⟨hw, a0, a1⟩ := word_lo ha
       have F := wf hw
       have F1 := F.lo
       have F2 := F.s2
       have F3 := F.s3
       have F5 : IntKind.i64.wrap (2 ^ w.toNat - 1) = 2 ^ w.toNat - 1 := wrap_id (by omega) (by omega)
       have F6 : IntKind.i64.wrap (2 ^ w.toNat - 1 - a) = 2 ^ w.toNat - 1 - a := wrap_id (by omega) (by omega)
       try simp only [F.u, F.s, F5, F6] at *
       first | omega | (simp [applyU, *]; done))
end Vg
