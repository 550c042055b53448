/- Facts are printed: contracts of the functions that print numbers, registers and facts, and of the law FnExactFormatFact. Condition: lists are no longer than the law lets through. -/
import Derived.Test.YtcdepophgnlphaaDoorBase
import Derived.Test.YtcdepophgnlphaaDoorRet
namespace Vg
open Go Go.Proofs
set_option maxRecDepth 100000
set_option maxHeartbeats 40000000
def u2 (n : Int) : ByteArray := ⟨(Lib.itoa n).toArray⟩
theorem qP (n : Int) (h0 : -9223372036854775808 ≤ n) (h1 : n ≤ 9223372036854775807) : CallsV Tryd.prog 58 [.dat (.i n)] (.dat (.str (u2 n))) :=
  itoaV Tryd.laysM171 rfl ⟨_, Tryd.func58, rfl, rfl⟩ (by kernel_rfl) (List.mem_singleton.2 rfl) n h0 h1
theorem yU (n : Int) (h0 : -9223372036854775808 ≤ n) (h1 : n ≤ 9223372036854775807) : CallsV Tryd.prog 54 [.dat (.i n)] (.dat (.str (u2 n))) := by
  refine oV Tryd.func54 ⟨?_⟩
  repeat' (first | ((with_reducible refine fun (K1 : KT) hK => ?_); refine g6 ⟨?_⟩) | ((with_reducible show K1 _ _); subst hK; conv => whnf) | (with_reducible exact rfl) | refine f4 ⟨?_⟩ | ((with_reducible refine SplS.mk (fun h => ?_) (fun h => ?_)) <;> first | exact o6 | (subst h; conv => whnf) | (conv => whnf)) | ((with_reducible first | refine p3 (g := 58) ?_ | show Exists _); refine ⟨_, qP (h0 := ?_) (h1 := ?_) .., rfl, ?_⟩; rotate_right; conv => whnf) | (intro h; conv => whnf))
  all_goals repeat clear hK K1
  all_goals first | (with_reducible assumption) | rfl | skip
/-! ### numerals are short -/
theorem sH : ∀ (k u : Nat), u < 10 ^ (k + 1) → (Lib.decDigits u).length ≤ k + 1
  | 0, u, h => by rw [Lib.decDigits, dif_pos (by simpa using h)]; simp
  | k + 1, u, h => by
    rw [Lib.decDigits]
    split
    · simp
    · have := sH k (u / 10) (by rw [Nat.pow_succ] at h; omega)
      rw [List.length_append]; simp; omega
def z6 (n : Int) : ByteArray := ⟨#[114]⟩ ++ u2 n
def oA (k : Int) : ByteArray :=
  if k = 1 then ⟨#[105, 115]⟩ else if k = 2 then ⟨#[115, 97, 109, 101]⟩ else if k = 3 then ⟨#[109, 111, 115, 116]⟩ else if k = 4 then ⟨#[98, 105, 116]⟩ else if k = 5 then ⟨#[115, 117, 109]⟩ else ⟨#[111, 114, 100, 101, 114]⟩
/-! ### numbers as the reference prints them -/
structure FmtI (n0 n : Int) (l : List UInt8) : Prop where
  dig : Lib.decDigits n.toNat ++ l = Lib.decDigits n0.toNat
  len : l.length + 1 ≤ (Lib.decDigits n0.toNat).length
  le : n ≤ n0
  nn : 0 ≤ n
theorem eK (u : Nat) : 1 ≤ (Lib.decDigits u).length := by rw [Lib.decDigits]; split <;> simp
theorem fmtI_0 {n : Int} (h : 0 ≤ n) : FmtI n n [] := ⟨by simp, by simpa using eK n.toNat, Int.le_refl _, h⟩
theorem sV {n0 n : Int} {l : List UInt8} (h : FmtI n0 n l) (hn : n > 9) : FmtI n0 (n / 10) (UInt8.ofNat (48 + (n % 10).toNat) :: l) := by
  have h10 : (n / 10).toNat = n.toNat / 10 := by omega
  have hm : (n % 10).toNat = n.toNat % 10 := by omega
  have e : Lib.decDigits (n / 10).toNat ++ UInt8.ofNat (48 + (n % 10).toNat) :: l = Lib.decDigits n0.toNat := by
    rw [← h.dig, h10, hm]
    conv => rhs; rw [Lib.decDigits, dif_neg omG]
    simp
  refine ⟨e, ?_, by have := h.le; omega, by omega⟩
  rw [← e, List.length_append]
  have := eK (n / 10).toNat
  simp
  omega
theorem iL (x : UInt8) (l : List UInt8) : (⟨(x :: l).toArray⟩ : ByteArray) = ⟨#[x]⟩ ++ ⟨l.toArray⟩ := by
  apply ByteArray.ext
  rw [ByteArray.data_append]
  apply Array.ext'
  simp
theorem eI {m : Nat} (h : m < 10) : strOfNums [IntKind.u8.wrap (IntKind.i64.wrap (48 + (m : Int)))] = ⟨#[UInt8.ofNat (48 + m)]⟩ := by
  have e1 : IntKind.i64.wrap (48 + (m : Int)) = ((48 + m : Nat) : Int) := by rw [g4 omG omG]; omega
  have e2 : IntKind.u8.wrap ((48 + m : Nat) : Int) = ((48 + m : Nat) : Int) := by
    simp only [IntKind.wrap]
    have q1 : (2 : Int) ^ IntKind.u8.bits = 256 := rfl
    have q3 : IntKind.u8.signed = false := rfl
    rw [q1, q3]
    simp
    omega
  rw [e1, e2]
  show (⟨#[UInt8.ofNat ((48 + m : Nat) : Int).toNat]⟩ : ByteArray) = _
  rw [Int.toNat_natCast]
theorem fmt_s {n0 n : Int} {l : List UInt8} (h : FmtI n0 n l) : Dat.str ⟨(UInt8.ofNat (48 + (n % 10).toNat) :: l).toArray⟩ = Dat.str (strOfNums [IntKind.u8.wrap (IntKind.i64.wrap (48 + n.tmod 10))] ++ ⟨l.toArray⟩) := by
  have e : n.tmod 10 = (((n % 10).toNat : Nat) : Int) := by rw [Int.tmod_eq_emod_of_nonneg h.nn]; omega
  rw [e, eI omG, ← iL]
theorem fmt_q {n0 n : Int} {l : List UInt8} (h : FmtI n0 n l) (h1 : n0 < 1000000) : Dat.i (n / 10) = Dat.int .i64 (IntKind.i64.wrap (n.tdiv 10)) := by
  have e : n.tdiv 10 = n / 10 := Int.tdiv_eq_ediv_of_nonneg h.nn
  have := h.le; have := h.nn
  rw [e, g4 omG omG]
theorem zJ {n0 n : Int} {l : List UInt8} (h : FmtI n0 n l) (hn : ¬ n > 9) : Dat.str (u2 n0) = Dat.str (strOfNums [IntKind.u8.wrap (IntKind.i64.wrap (48 + n))] ++ ⟨l.toArray⟩) := by
  have h0 := h.nn
  have h1 := h.le
  have hn' : n.toNat < 10 := by omega
  have en : n = ((n.toNat : Nat) : Int) := by omega
  rw [en, eI hn', ← iL]
  have e := h.dig
  rw [Lib.decDigits, dif_pos hn'] at e
  have : Lib.itoa n0 = UInt8.ofNat (48 + n.toNat) :: l := by
    unfold Lib.itoa
    rw [if_neg omG, ← e]; rfl
  unfold u2
  rw [this]
theorem fmt_len {n0 n : Int} {l : List UInt8} (h : FmtI n0 n l) (h1 : n0 < 1000000) : l.length ≤ 6 := by
  have := h.nn; have := h.le
  have := sH 5 n0.toNat omG
  have := h.len
  omega
theorem pV {n0 n : Int} {l : List UInt8} (_h : FmtI n0 n l) (hn : n > 9) : (n / 10).toNat < n.toNat := by omega
theorem fmt_b {l : List UInt8} {x : ByteArray} (h : l.length ≤ 6) (hx : x.size = 1 := by rfl) : x.size + (⟨l.toArray⟩ : ByteArray).size ≤ maxLen := by
  have e : (⟨l.toArray⟩ : ByteArray).size = l.length := List.size_toArray ..
  have hm : maxLen = 9223372036854775807 := rfl
  omega
theorem gZ (n0 : Int) (h0 : 0 ≤ n0) (h1 : n0 < 1000000) : CallsV Tryd.prog 28 [.dat (.i n0)] (.dat (.str (u2 n0))) := by
  refine oV Tryd.func28 ⟨?_⟩
  repeat' (first | ((with_reducible refine fun (K1 : KT) hK => ?_); refine g6 ⟨?_⟩) | ((with_reducible show K1 _ _); subst hK; conv => whnf) | (with_reducible exact rfl) | refine f4 ⟨?_⟩ | ((with_reducible refine SplS.mk (fun h => ?_) (fun h => ?_)) <;> first | exact o6 | (subst h; conv => whnf) | (conv => whnf)) | refine g5 ⟨?_⟩ ⟨?_⟩ | (refine Exists.intro ({x : Int × List UInt8 // FmtI n0 x.1 x.2}) (Exists.intro (fun ⟨⟨n, l⟩, hI⟩ => x5 Tryd.f28.ntmps [(0, .dat (.i n)), (3, .dat (.str ⟨l.toArray⟩))] []) (Exists.intro (fun ⟨⟨n, l⟩, hI⟩ => n.toNat) (Exists.intro ⟨⟨n0, []⟩, fmtI_0 h0⟩ (And.intro (SubP.sub (σ := []) ⟨⟨rfl, rfl, rfl⟩, ⟨j0 ?_, j0 ?_, trivial⟩, trivial⟩) (fun ⟨⟨n, l⟩, hI⟩ => ?_))))); rotate_right; conv => whnf) | (refine Exists.intro (⟨⟨n / 10, UInt8.ofNat (48 + (n % 10).toNat) :: l⟩, ?_⟩ : {x : Int × List UInt8 // FmtI n0 x.1 x.2}) (And.intro ?_ (SubP.sub (σ := []) ⟨⟨rfl, rfl, rfl⟩, ⟨j0 ?_, j0 ?_, trivial⟩, trivial⟩))) | (intro h; conv => whnf))
  all_goals repeat clear hK K1
  all_goals first | (with_reducible assumption) | (with_reducible rfl) | (exfalso; omega) | exact sV hI asmR | exact fmt_s hI | exact fmt_q hI h1 | exact zJ hI asmR | exact (zJ hI asmR).symm | exact fmt_b (fmt_len hI h1) | exact pV hI asmR | rfl | omega | (dsimp only; omega) | skip
/-! ### words are joined -/
end Vg
