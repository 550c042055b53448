/- Words: contracts of the reference's and the program's functions that compute with them. No condition. -/
import Derived.Test.YtfhkodimclmcdaaGreatDoorBase
namespace Vg
open Go Go.Proofs
set_option maxRecDepth 100000
set_option maxHeartbeats 40000000
theorem uw0 {b : Int} (h : inP b 0 15 = true) : IntKind.u64.wrap b = b := by
  have h' : 0 <= b /\ b <= 15 := by simpa [inP] using h
  have h2 : b.toNat < 16 := by omega
  have e : b = (b.toNat : Int) := by omega
  rw [e]
  revert h2
  generalize b.toNat = k
  intro h
  have : ∀ k < 16,IntKind.u64.wrap ((k : Nat) : Int) = k := by decide
  exact this k h
def u9 (w n : Int) : Int := if inP w 1 16 = true then IntKind.i64.wrap (BitVec.ofInt IntKind.i64.bits n &&& BitVec.ofInt IntKind.i64.bits (2 ^ w.toNat - 1)).toNat else -1
theorem oZ {w n : Int} (h : inP w 1 16 = false) : u9 w n = -1 := by
  unfold u9
  rw [if_neg (by simp [h])]
theorem mT {w n : Int} (h : inP w 1 16 = true) : u9 w n = IntKind.i64.wrap (BitVec.ofInt IntKind.i64.bits n &&& BitVec.ofInt IntKind.i64.bits (IntKind.i64.wrap (IntKind.i64.wrap (1 * 2 ^ min w.toNat IntKind.i64.bits) - 1))).toNat := by
  unfold u9
  rw [if_pos h,iN h,top1 h]
theorem tK (w n : Int) : CallsV Tryz.prog 33 [.dat (.i w),.dat (.i n)] (.dat (.i (u9 w n))) := by
  refine oV Tryz.func33 ⟨?_⟩
  repeat' (first|((with_reducible refine fun (K1 : KT) hK=>?_);refine w5 ⟨?_⟩)|((with_reducible show K1 _ _);subst hK;conv=>whnf)|refine st0 ⟨?_⟩|((with_reducible refine SplS.mk (fun h=>?_) (fun h=>?_)) <;> first|exact o4|(conv=>whnf))|refine f2 ⟨?_⟩ ⟨?_⟩|refine vP (zA ..) ⟨?_⟩|fail)
  all_goals repeat clear hK K1
  . rw [oZ h]
  . rw [mT h]
  . simp [inP] at h;omega
theorem uR (w n : Int) : CallsV Tryz.prog 173 [.dat (.i w),.dat (.i n)] (.dat (.i (u9 w n))) := by
  refine oV Tryz.func173 ⟨?_⟩
  repeat' (first|((with_reducible refine fun (K1 : KT) hK=>?_);refine w5 ⟨?_⟩)|((with_reducible show K1 _ _);subst hK;conv=>whnf)|refine st0 ⟨?_⟩|((with_reducible refine SplS.mk (fun h=>?_) (fun h=>?_)) <;> first|exact o4|(conv=>whnf))|refine f2 ⟨?_⟩ ⟨?_⟩|refine vP (qL ..) ⟨?_⟩|fail)
  all_goals repeat clear hK K1
  . rw [oZ h]
  . rw [mT h,uw h]
  . rw [uw h];simp [inP] at h;omega
def p8 (b : Bool) : Int := if b then 1 else 0
theorem qjj (b : Bool) : CallsV Tryz.prog 115 [.dat (.bool b)] (.dat (.i (p8 b))) := by
  refine oV Tryz.func115 ⟨?_⟩
  repeat' (first|((with_reducible refine fun (K1 : KT) hK=>?_);refine w5 ⟨?_⟩)|((with_reducible show K1 _ _);subst hK;conv=>whnf)|refine st0 ⟨?_⟩|((with_reducible refine SplS.mk (fun h=>?_) (fun h=>?_)) <;> first|exact o4|(conv=>whnf)))
  all_goals repeat clear hK K1
  all_goals first|rfl|(simp [p8, *];done)
theorem qmm (b : Bool) : CallsV Tryz.prog 176 [.dat (.bool b)] (.dat (.i (p8 b))) := by
  refine oV Tryz.func176 ⟨?_⟩
  repeat' (first|((with_reducible refine fun (K1 : KT) hK=>?_);refine w5 ⟨?_⟩)|((with_reducible show K1 _ _);subst hK;conv=>whnf)|refine st0 ⟨?_⟩|((with_reducible refine SplS.mk (fun h=>?_) (fun h=>?_)) <;> first|exact o4|(conv=>whnf)))
  all_goals repeat clear hK K1
  all_goals first|rfl|(simp [p8, *];done)
structure WF (w : Int) : Prop where
  lo : 1 <= w
  hi : w <= 16
  wm : IntKind.i64.wrap (w - 1) = w - 1
  um : IntKind.u64.wrap (w - 1) = w - 1
  u : IntKind.u64.wrap w = w
  s : IntKind.i64.wrap (1 * 2 ^ min w.toNat IntKind.i64.bits) = 2 ^ w.toNat
  s2 : (2 : Int) ^ w.toNat <= 65536
  s3 : (2 : Int) <= 2 ^ w.toNat
  mn : min (w - 1).toNat IntKind.i64.bits = (w - 1).toNat
  half : (2 : Int) ^ w.toNat = 2 * 2 ^ (w - 1).toNat
theorem wf {w : Int} (h : inP w 1 16 = true) : WF w := by
  have hu := uw h
  have hs := iN h
  simp [inP] at h
  have h1 : (w.toNat : Int) = w := by omega
  have h2 : w.toNat <= 16 := by omega
  have h3 : 1 <= w.toNat := by omega
  have e : w = ((w.toNat : Nat) : Int) := h1.symm
  have h4 : (w - 1).toNat = w.toNat - 1 := by omega
  refine ⟨by omega,by omega,j3 omG omG, ?_,hu,hs, ?_, ?_, ?_, ?_⟩
  . have : inP (w - 1) 0 15 = true := by simp [inP];omega
    exact uw0 this
  . have : ∀ k ≤ 16,(2 : Int) ^ k <= 65536 := by decide
    exact this _ h2
  . have : ∀ k ≤ 16,1 <= k -> (2 : Int) <= 2 ^ k := by decide
    exact this _ h2 h3
  . have : IntKind.i64.bits = 64 := rfl
    omega
  . rw [h4]
    have : ∀ k ≤ 16,1 <= k -> (2 : Int) ^ k = 2 * 2 ^ (k - 1) := by decide
    exact this _ h2 h3
theorem u4 {w a : Int} (h : wordP w a = true) : inP w 1 16 = true /\ 0 <= a /\ a < 2 ^ w.toNat := by
  simp only [wordP,Bool.and_eq_true] at h
  refine ⟨h.1, ?_⟩
  have := h.2
  simp [inP] at this
  omega
theorem lC {w a : Int} (h : inP w 1 16 = true) (h0 : 0 <= a) (h1 : a < 2 ^ w.toNat) : wordP w a = true := by
  simp only [wordP,h,Bool.true_and]
  simp [inP];omega
def t7 (w a : Int) : Int := if wordP w a = true then (if Int.fdiv a (2 ^ (w - 1).toNat) = 0 then a else a - 2 ^ w.toNat) else 0
theorem qfd {w a : Int} (h : wordP w a = true) : Int.fdiv a (2 ^ (w - 1).toNat) = 0 \/ Int.fdiv a (2 ^ (w - 1).toNat) = 1 := by
  obtain ⟨hw,h0,h1⟩ := u4 h
  have F := wf hw
  have hp : (0 : Int) < 2 ^ (w - 1).toNat := by have := F.half;have := F.s3;omega
  rw [Int.fdiv_eq_ediv_of_nonneg _ (Int.le_of_lt hp)]
  have h2 : a < 2 * 2 ^ (w - 1).toNat := by rw [<- F.half];exact h1
  have h3 : a / 2 ^ (w - 1).toNat < 2 := Int.ediv_lt_of_lt_mul hp h2
  have h4 : 0 <= a / 2 ^ (w - 1).toNat := Int.ediv_nonneg h0 (Int.le_of_lt hp)
  omega
theorem nP {n : Int} (h1 : 0 <= n) (h2 : n < 18446744073709551616) : IntKind.u64.wrap n = n := by
  simp only [IntKind.wrap]
  have e1 : (2 : Int) ^ IntKind.u64.bits = 18446744073709551616 := rfl
  have e3 : IntKind.u64.signed = false := rfl
  simp only [e1,e3]
  simp
  omega
theorem sg_no {w a : Int} (h : wordP w a = false) : t7 w a = 0 := by simp [t7,h]
theorem sg_lo {w a : Int} (h : wordP w a = true) (h1 : Int.fdiv a (2 ^ (w - 1).toNat) = 0) : t7 w a = a := by
  unfold t7
  rw [if_pos h,if_pos h1]
theorem sg_hi {w a : Int} (h : wordP w a = true) (h1 : ¬ Int.fdiv a (2 ^ (w - 1).toNat) = 0) : t7 w a = IntKind.i64.wrap (a - 2 ^ w.toNat) := by
  obtain ⟨hw,h0,h2⟩ := u4 h
  have F := wf hw
  have := F.s2
  have := F.s3
  rw [j3 omG omG]
  unfold t7
  rw [if_pos h,if_neg h1]
theorem qbe (w a : Int) : CallsV Tryz.prog 114 [.dat (.i w),.dat (.i a)] (.dat (.i (t7 w a))) := by
  refine oV Tryz.func114 ⟨?_⟩
  repeat' (first|((with_reducible refine fun (K1 : KT) hK=>?_);refine w5 ⟨?_⟩)|((with_reducible show K1 _ _);subst hK;conv=>whnf)|refine st0 ⟨?_⟩|((with_reducible refine SplS.mk (fun h=>?_) (fun h=>?_)) <;> first|exact o4|(subst h;conv=>whnf)|(conv=>whnf))|refine f2 ⟨?_⟩ ⟨?_⟩|refine vP (dG ..) ⟨?_⟩|fail)
  all_goals repeat clear hK K1
  all_goals first
    | exact congrArg Dat.i (sg_no h)
    | (have hw0 : wordP w a = true := by assumption
       obtain ⟨hw,h0,h1⟩ := u4 hw0
       have F := wf hw
       have F1 := F.lo
       have F3 := qfd hw0
       try simp only [F.wm,F.s,F.mn] at *
       first|omega|exact congrArg Dat.i (sg_lo hw0 omG)|exact congrArg Dat.i (sg_hi hw0 omG))
theorem vW (w a : Int) : CallsV Tryz.prog 174 [.dat (.i w),.dat (.i a)] (.dat (.i (t7 w a))) := by
  refine oV Tryz.func174 ⟨?_⟩
  repeat' (first|((with_reducible refine fun (K1 : KT) hK=>?_);refine w5 ⟨?_⟩)|((with_reducible show K1 _ _);subst hK;conv=>whnf)|refine st0 ⟨?_⟩|((with_reducible refine SplS.mk (fun h=>?_) (fun h=>?_)) <;> first|exact o4|(subst h;conv=>whnf)|(conv=>whnf))|refine f2 ⟨?_⟩ ⟨?_⟩|refine vP (bE ..) ⟨?_⟩|fail)
  all_goals repeat clear hK K1
  all_goals first
    | exact congrArg Dat.i (sg_no h)
    | (have hw0 : wordP w a = true := by assumption
       obtain ⟨hw,h0,h1⟩ := u4 hw0
       have F := wf hw
       have F1 := F.lo
       have F3 := qfd hw0
       try simp only [F.wm,F.um,F.u,F.s,F.mn] at *
       first|omega|exact congrArg Dat.i (sg_lo hw0 omG)|exact congrArg Dat.i (sg_hi hw0 omG))
def dB (op w a b : Int) : Int :=
  if op = 13 then u9 w (Int.fdiv (t7 w a) (2 ^ min (if w - 1 < b then w - 1 else b).toNat IntKind.i64.bits))
  else if w <= b then 0
  else if op = 11 then u9 w (IntKind.i64.wrap (a * 2 ^ min b.toNat IntKind.i64.bits))
  else Int.fdiv a (2 ^ min b.toNat IntKind.i64.bits)
theorem qlw (op w a b : Int) (hw : inP w 1 16 = true) (h0 : 0 <= b) (h1 : b <= 65536) : CallsV Tryz.prog 175 [.dat (.i op),.dat (.i w),.dat (.i a),.dat (.i b)] (.dat (.i (dB op w a b))) := by
  refine oV Tryz.func175 ⟨?_⟩
  repeat' (first|((with_reducible refine fun (K1 : KT) hK=>?_);refine w5 ⟨?_⟩)|((with_reducible show K1 _ _);subst hK;conv=>whnf)|refine st0 ⟨?_⟩|((with_reducible refine SplS.mk (fun h=>?_) (fun h=>?_)) <;> first|exact o4|(subst h;conv=>whnf)|(conv=>whnf))|refine f2 ⟨?_⟩ ⟨?_⟩|refine vP (uR ..) ⟨?_⟩|refine vP (vW ..) ⟨?_⟩|fail)
  all_goals repeat clear hK K1
  all_goals first
    | (simp [dB, *];done)
    | (have hn : w <= b := by omega
       simp [dB,hn, *];done)
    | (have hn : ¬ w <= b := by omega
       rw [nP h0 omG]
       first
         | omega
         | (simp [dB, *];done))
    | (have F := wf hw
       have F1 := F.lo
       simp only [F.wm]
       rw [nP (by split <;> omega) (by split <;> omega)]
       first|(simp [dB];done)|(split <;> omega))
def m4 (op w a b : Int) : Int :=
  if (wordP w a && wordP w b) = true then
    if op = 3 then u9 w (IntKind.i64.wrap (a + b))
    else if op = 4 then u9 w (IntKind.i64.wrap (a - b))
    else if op = 5 then u9 w (IntKind.i64.wrap (a * b))
    else if op = 6 then (if b = 0 then 2 ^ w.toNat - 1 else IntKind.i64.wrap (a.tdiv b))
    else if op = 7 then (if b = 0 then a else a.tmod b)
    else if op = 8 then IntKind.i64.wrap (BitVec.ofInt IntKind.i64.bits a &&& BitVec.ofInt IntKind.i64.bits b).toNat
    else if op = 9 then IntKind.i64.wrap (BitVec.ofInt IntKind.i64.bits a ||| BitVec.ofInt IntKind.i64.bits b).toNat
    else if op = 10 then IntKind.i64.wrap (BitVec.ofInt IntKind.i64.bits a ^^^ BitVec.ofInt IntKind.i64.bits b).toNat
    else if op = 11 \/ op = 12 \/ op = 13 then dB op w a b
    else if op = 14 then p8 (a == b)
    else if op = 15 then p8 (decide (a < b))
    else if op = 16 then p8 (decide (t7 w a < t7 w b))
    else -1
  else -1
theorem sar_e {w a b : Int} (ha : wordP w a = true) (hb : wordP w b = true) : m4 13 w a b = dB 13 w a b := by simp [m4,ha,hb]
theorem sar_hi {w a b : Int} (ha : wordP w a = true) (hb : wordP w b = true) (h : w <= b) : m4 13 w a b = u9 w (Int.fdiv (t7 w a) (2 ^ (w - 1).toNat)) := by
  rw [sar_e ha hb]
  unfold dB
  rw [if_pos rfl,if_pos omG,(wf (u4 ha).1).mn]
theorem sar_lo {w a b : Int} (ha : wordP w a = true) (hb : wordP w b = true) (h : ¬ w <= b) : m4 13 w a b = u9 w (Int.fdiv (t7 w a) (2 ^ min b.toNat IntKind.i64.bits)) := by
  rw [sar_e ha hb]
  unfold dB
  rw [if_pos rfl,if_neg omG]
theorem oQ (op w a b : Int) : CallsV Tryz.prog 79 [.dat (.i op),.dat (.i w),.dat (.i a),.dat (.i b)] (.dat (.i (m4 op w a b))) := by
  refine oV Tryz.func79 ⟨?_⟩
  repeat' (first|((with_reducible refine fun (K1 : KT) hK=>?_);refine w5 ⟨?_⟩)|((with_reducible show K1 _ _);subst hK;conv=>whnf)|refine st0 ⟨?_⟩|((with_reducible refine SplS.mk (fun h=>?_) (fun h=>?_)) <;> first|exact o4|(subst h;conv=>whnf)|(conv=>whnf))|refine f2 ⟨?_⟩ ⟨?_⟩|refine vP (dG ..) ⟨?_⟩|refine vP (tK ..) ⟨?_⟩|refine vP (qbe ..) ⟨?_⟩|refine vP (qjj ..) ⟨?_⟩|(intro h;conv=>whnf))
  all_goals repeat clear hK K1
  all_goals first
    | (simp [m4, *];done)
    | (have h00 : wordP w 0 = true := by assumption
       have ha : wordP w a = true := by assumption
       obtain ⟨hw,a0,a1⟩ := u4 ha
       have F := wf hw
       have F1 := F.lo
       have F2 := F.s2
       have F3 := F.s3
       have F5 : IntKind.i64.wrap (2 ^ w.toNat - 1) = 2 ^ w.toNat - 1 := j3 omG omG
       try simp only [F.s,F5] at *
       first
         | omega
         | (simp [m4, *];done))
    | (have ha : wordP w a = true := by assumption
       have hb : wordP w b = true := by assumption
       obtain ⟨hw,a0,a1⟩ := u4 ha
       obtain ⟨_,b0,b1⟩ := u4 hb
       have F := wf hw
       have F1 := F.lo
       have F2 := F.s2
       have F3 := F.s3
       have F4 := F.hi
       have F5 : IntKind.i64.wrap (2 ^ w.toNat - 1) = 2 ^ w.toNat - 1 := j3 omG omG
       try simp only [F.wm,F.mn,F5] at *
       first
         | omega
         | assumption
         | exact congrArg Dat.i (sar_hi ha hb omG)
         | exact congrArg Dat.i (sar_lo ha hb omG)
         | (simp [m4, *];done)
         | (have hn : w <= b := by omega
            have hn' : w - 1 < b := by omega
            simp [m4,dB, *];done)
         | (have hn : ¬ w <= b := by omega
            have hn' : ¬ w - 1 < b := by omega
            simp [m4,dB, *];done))
theorem lO (op w a b : Int) : CallsV Tryz.prog 149 [.dat (.i op),.dat (.i w),.dat (.i a),.dat (.i b)] (.dat (.i (m4 op w a b))) := by
  refine oV Tryz.func149 ⟨?_⟩
  repeat' (first|((with_reducible refine fun (K1 : KT) hK=>?_);refine w5 ⟨?_⟩)|((with_reducible show K1 _ _);subst hK;conv=>whnf)|refine st0 ⟨?_⟩|((with_reducible refine SplS.mk (fun h=>?_) (fun h=>?_)) <;> first|exact o4|(subst h;conv=>whnf)|(conv=>whnf))|refine f2 ⟨?_⟩ ⟨?_⟩|refine vP (bE ..) ⟨?_⟩|refine vP (uR ..) ⟨?_⟩|refine vP (qlw (hw := ?_) (h0 := ?_) (h1 := ?_) ..) ⟨?_⟩|refine vP (qmm ..) ⟨?_⟩|refine vP (vW ..) ⟨?_⟩|(intro h;conv=>whnf))
  all_goals repeat clear hK K1
  all_goals first
    | (simp [m4, *];done)
    | (have h00 : wordP w 0 = true := by assumption
       have ha : wordP w a = true := by assumption
       obtain ⟨hw,a0,a1⟩ := u4 ha
       have F := wf hw
       have F1 := F.lo
       have F2 := F.s2
       have F3 := F.s3
       have F5 : IntKind.i64.wrap (2 ^ w.toNat - 1) = 2 ^ w.toNat - 1 := j3 omG omG
       try simp only [F.u,F.s,F5] at *
       first
         | omega
         | (simp [m4, *];done))
    | (have ha : wordP w a = true := by assumption
       have hb : wordP w b = true := by assumption
       obtain ⟨hw,a0,a1⟩ := u4 ha
       obtain ⟨_,b0,b1⟩ := u4 hb
       have F := wf hw
       have F1 := F.lo
       have F2 := F.s2
       have F3 := F.s3
       have F4 := F.hi
       have F5 : IntKind.i64.wrap (2 ^ w.toNat - 1) = 2 ^ w.toNat - 1 := j3 omG omG
       try simp only [F5] at *
       first
         | omega
         | assumption
         | (simp [m4, *];done)
         | (have hn : w <= b := by omega
            have hn' : w - 1 < b := by omega
            simp [m4,dB,hn,hn', *];done)
         | (have hn : ¬ w <= b := by omega
            have hn' : ¬ w - 1 < b := by omega
            simp [m4,dB,hn,hn', *];done))
def r7 (op w a : Int) : Int :=
  if wordP w a = true then (if op = 1 then 2 ^ w.toNat - 1 - a else if op = 2 then u9 w (IntKind.i64.wrap (0 - a)) else -1) else -1
theorem qbf (op w a : Int) : CallsV Tryz.prog 80 [.dat (.i op),.dat (.i w),.dat (.i a)] (.dat (.i (r7 op w a))) := by
  refine oV Tryz.func80 ⟨?_⟩
  repeat' (first|((with_reducible refine fun (K1 : KT) hK=>?_);refine w5 ⟨?_⟩)|((with_reducible show K1 _ _);subst hK;conv=>whnf)|refine st0 ⟨?_⟩|((with_reducible refine SplS.mk (fun h=>?_) (fun h=>?_)) <;> first|exact o4|(subst h;conv=>whnf)|(conv=>whnf))|refine f2 ⟨?_⟩ ⟨?_⟩|refine vP (dG ..) ⟨?_⟩|refine vP (tK ..) ⟨?_⟩|fail)
  all_goals repeat clear hK K1
  all_goals first
    | (simp [r7, *];done)
    | (have ha : wordP w a = true := by assumption
       obtain ⟨hw,a0,a1⟩ := u4 ha
       have F := wf hw
       have F1 := F.lo
       have F2 := F.s2
       have F3 := F.s3
       have F5 : IntKind.i64.wrap (2 ^ w.toNat - 1) = 2 ^ w.toNat - 1 := j3 omG omG
       have F6 : IntKind.i64.wrap (2 ^ w.toNat - 1 - a) = 2 ^ w.toNat - 1 - a := j3 omG omG
       try simp only [F.s,F5,F6] at *
       first|omega|(simp [r7, *];done))
theorem qeo (op w a : Int) : CallsV Tryz.prog 145 [.dat (.i op),.dat (.i w),.dat (.i a)] (.dat (.i (r7 op w a))) := by
  refine oV Tryz.func145 ⟨?_⟩
  repeat' (first|((with_reducible refine fun (K1 : KT) hK=>?_);refine w5 ⟨?_⟩)|((with_reducible show K1 _ _);subst hK;conv=>whnf)|refine st0 ⟨?_⟩|((with_reducible refine SplS.mk (fun h=>?_) (fun h=>?_)) <;> first|exact o4|(subst h;conv=>whnf)|(conv=>whnf))|refine f2 ⟨?_⟩ ⟨?_⟩|refine vP (bE ..) ⟨?_⟩|refine vP (uR ..) ⟨?_⟩|fail)
  all_goals repeat clear hK K1
  all_goals first
    | (simp [r7, *];done)
    | (have ha : wordP w a = true := by assumption
       obtain ⟨hw,a0,a1⟩ := u4 ha
       have F := wf hw
       have F1 := F.lo
       have F2 := F.s2
       have F3 := F.s3
       have F5 : IntKind.i64.wrap (2 ^ w.toNat - 1) = 2 ^ w.toNat - 1 := j3 omG omG
       have F6 : IntKind.i64.wrap (2 ^ w.toNat - 1 - a) = 2 ^ w.toNat - 1 - a := j3 omG omG
       try simp only [F.u,F.s,F5,F6] at *
       first|omega|(simp [r7, *];done))
end Vg
