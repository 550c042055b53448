/- Facts are printed: contracts of the functions that print numbers, registers and facts, and of the law FnExactFormatFact. Condition: lists are no longer than the law lets through. -/
import Derived.Test.YtgbjdifegilniaaGreatDoorBase
import Derived.Test.YtgbjdifegilniaaGreatDoorRet
namespace Vg
open Go Go.Proofs
set_option maxRecDepth 100000
set_option maxHeartbeats 40000000
def s1 (n : Int) : ByteArray := ⟨(Lib.itoa n).toArray⟩
theorem iS (n : Int) (h0 : -9223372036854775808 ≤ n) (h1 : n ≤ 9223372036854775807) : CallsV Tryz.prog 75 [.dat (.i n)] (.dat (.str (s1 n))) :=
  itoaV Tryz.laysM171 rfl ⟨_, Tryz.func75, rfl, rfl⟩ (by kernel_rfl) (List.mem_singleton.2 rfl) n h0 h1
theorem wG (n : Int) (h0 : -9223372036854775808 ≤ n) (h1 : n ≤ 9223372036854775807) : CallsV Tryz.prog 40 [.dat (.i n)] (.dat (.str (s1 n))) := by
  refine oV Tryz.func40 ⟨?_⟩
  repeat' (first | ((with_reducible refine fun (K1 : KT) hK => ?_); refine j6 ⟨?_⟩) | ((with_reducible show K1 _ _); subst hK; conv => whnf) | (with_reducible exact rfl) | refine y5 ⟨?_⟩ | ((with_reducible refine SplS.mk (fun h => ?_) (fun h => ?_)) <;> first | exact a7 | (subst h; conv => whnf) | (conv => whnf)) | ((with_reducible first | refine s0 (g := 75) ?_ | show Exists _); refine ⟨_, iS (h0 := ?_) (h1 := ?_) .., rfl, ?_⟩; rotate_right; conv => whnf) | (intro h; conv => whnf))
  all_goals repeat clear hK K1
  all_goals first | (with_reducible assumption) | rfl | skip
/-! ### numerals are short -/
theorem fH : ∀ (k u : Nat), u < 10 ^ (k + 1) → (Lib.decDigits u).length ≤ k + 1
  | 0, u, h => by rw [Lib.decDigits, dif_pos (by simpa using h)]; simp
  | k + 1, u, h => by
    rw [Lib.decDigits]
    split
    · simp
    · have := fH k (u / 10) (by rw [Nat.pow_succ] at h; omega)
      rw [List.length_append]; simp; omega
theorem jX {n : Int} (h0 : 0 ≤ n) (h1 : n < 1000) : (s1 n).size ≤ 3 := by
  show (Lib.itoa n).toArray.size ≤ 3
  unfold Lib.itoa
  rw [if_neg omG]
  simpa using fH 2 n.toNat omG
def o5 (n : Int) : ByteArray := ⟨#[114]⟩ ++ s1 n
theorem gU {n : Int} (h0 : 0 ≤ n) (h1 : n < 1000) : (o5 n).size ≤ 4 := by
  have := jX h0 h1
  unfold o5
  rw [ByteArray.size_append]
  show 1 + _ ≤ 4
  omega
theorem qdn (n : Int) (h0 : 0 ≤ n) (h1 : n < 1000) : CallsV Tryz.prog 52 [.dat (.i n)] (.dat (.str (o5 n))) := by
  refine oV Tryz.func52 ⟨?_⟩
  repeat' (first | ((with_reducible refine fun (K1 : KT) hK => ?_); refine j6 ⟨?_⟩) | ((with_reducible show K1 _ _); subst hK; conv => whnf) | (with_reducible exact rfl) | refine y5 ⟨?_⟩ | ((with_reducible refine SplS.mk (fun h => ?_) (fun h => ?_)) <;> first | exact a7 | (subst h; conv => whnf) | (conv => whnf)) | refine p3 ⟨?_⟩ ⟨?_⟩ | ((with_reducible first | refine s0 (g := 40) ?_ | show Exists _); refine ⟨_, wG (h0 := ?_) (h1 := ?_) .., rfl, ?_⟩; rotate_right; conv => whnf) | (intro h; conv => whnf))
  all_goals repeat clear hK K1
  all_goals first | (with_reducible assumption) | rfl | omega | (have q := jX h0 h1; have hm : maxLen = 9223372036854775807 := rfl; show 1 + (s1 n).size ≤ maxLen; omega) | skip
def xB (k : Int) : ByteArray :=
  if k = 1 then ⟨#[105, 115]⟩ else if k = 2 then ⟨#[115, 97, 109, 101]⟩ else if k = 3 then ⟨#[109, 111, 115, 116]⟩ else if k = 4 then ⟨#[98, 105, 116]⟩ else if k = 5 then ⟨#[115, 117, 109]⟩ else ⟨#[111, 114, 100, 101, 114]⟩
/-! ### numbers as the reference prints them -/
structure FmtI (n0 n : Int) (l : List UInt8) : Prop where
  dig : Lib.decDigits n.toNat ++ l = Lib.decDigits n0.toNat
  len : l.length + 1 ≤ (Lib.decDigits n0.toNat).length
  le : n ≤ n0
  nn : 0 ≤ n
theorem lQ (u : Nat) : 1 ≤ (Lib.decDigits u).length := by rw [Lib.decDigits]; split <;> simp
theorem fmtI_0 {n : Int} (h : 0 ≤ n) : FmtI n n [] := ⟨by simp, by simpa using lQ n.toNat, Int.le_refl _, h⟩
theorem fmtI_s {n0 n : Int} {l : List UInt8} (h : FmtI n0 n l) (hn : n > 9) : FmtI n0 (n / 10) (UInt8.ofNat (48 + (n % 10).toNat) :: l) := by
  have h10 : (n / 10).toNat = n.toNat / 10 := by omega
  have hm : (n % 10).toNat = n.toNat % 10 := by omega
  have e : Lib.decDigits (n / 10).toNat ++ UInt8.ofNat (48 + (n % 10).toNat) :: l = Lib.decDigits n0.toNat := by
    rw [← h.dig, h10, hm]
    conv => rhs; rw [Lib.decDigits, dif_neg omG]
    simp
  refine ⟨e, ?_, by have := h.le; omega, by omega⟩
  rw [← e, List.length_append]
  have := lQ (n / 10).toNat
  simp
  omega
theorem vS (x : UInt8) (l : List UInt8) : (⟨(x :: l).toArray⟩ : ByteArray) = ⟨#[x]⟩ ++ ⟨l.toArray⟩ := by
  apply ByteArray.ext
  rw [ByteArray.data_append]
  apply Array.ext'
  simp
theorem jS {m : Nat} (h : m < 10) : strOfNums [IntKind.u8.wrap (IntKind.i64.wrap (48 + (m : Int)))] = ⟨#[UInt8.ofNat (48 + m)]⟩ := by
  have e1 : IntKind.i64.wrap (48 + (m : Int)) = ((48 + m : Nat) : Int) := by rw [z1 omG omG]; omega
  have e2 : IntKind.u8.wrap ((48 + m : Nat) : Int) = ((48 + m : Nat) : Int) := by
    simp only [IntKind.wrap]
    have q1 : (2 : Int) ^ IntKind.u8.bits = 256 := rfl
    have q3 : IntKind.u8.signed = false := rfl
    rw [q1, q3]
    simp
    omega
  rw [e1, e2]
  show (⟨#[UInt8.ofNat ((48 + m : Nat) : Int).toNat]⟩ : ByteArray) = _
  rw [Int.toNat_natCast]
theorem fmt_s {n0 n : Int} {l : List UInt8} (h : FmtI n0 n l) : Dat.str ⟨(UInt8.ofNat (48 + (n % 10).toNat) :: l).toArray⟩ = Dat.str (strOfNums [IntKind.u8.wrap (IntKind.i64.wrap (48 + n.tmod 10))] ++ ⟨l.toArray⟩) := by
  have e : n.tmod 10 = (((n % 10).toNat : Nat) : Int) := by rw [Int.tmod_eq_emod_of_nonneg h.nn]; omega
  rw [e, jS omG, ← vS]
theorem fmt_q {n0 n : Int} {l : List UInt8} (h : FmtI n0 n l) (h1 : n0 < 1000000) : Dat.i (n / 10) = Dat.int .i64 (IntKind.i64.wrap (n.tdiv 10)) := by
  have e : n.tdiv 10 = n / 10 := Int.tdiv_eq_ediv_of_nonneg h.nn
  have := h.le; have := h.nn
  rw [e, z1 omG omG]
theorem fZ {n0 n : Int} {l : List UInt8} (h : FmtI n0 n l) (hn : ¬ n > 9) : Dat.str (s1 n0) = Dat.str (strOfNums [IntKind.u8.wrap (IntKind.i64.wrap (48 + n))] ++ ⟨l.toArray⟩) := by
  have h0 := h.nn
  have h1 := h.le
  have hn' : n.toNat < 10 := by omega
  have en : n = ((n.toNat : Nat) : Int) := by omega
  rw [en, jS hn', ← vS]
  have e := h.dig
  rw [Lib.decDigits, dif_pos hn'] at e
  have : Lib.itoa n0 = UInt8.ofNat (48 + n.toNat) :: l := by
    unfold Lib.itoa
    rw [if_neg omG, ← e]; rfl
  unfold s1
  rw [this]
theorem fmt_len {n0 n : Int} {l : List UInt8} (h : FmtI n0 n l) (h1 : n0 < 1000000) : l.length ≤ 6 := by
  have := h.nn; have := h.le
  have := fH 5 n0.toNat omG
  have := h.len
  omega
theorem fmt_mu {n0 n : Int} {l : List UInt8} (_h : FmtI n0 n l) (hn : n > 9) : (n / 10).toNat < n.toNat := by omega
theorem fmt_b {l : List UInt8} {x : ByteArray} (h : l.length ≤ 6) (hx : x.size = 1 := by rfl) : x.size + (⟨l.toArray⟩ : ByteArray).size ≤ maxLen := by
  have e : (⟨l.toArray⟩ : ByteArray).size = l.length := List.size_toArray ..
  have hm : maxLen = 9223372036854775807 := rfl
  omega
theorem qb7 (n0 : Int) (h0 : 0 ≤ n0) (h1 : n0 < 1000000) : CallsV Tryz.prog 84 [.dat (.i n0)] (.dat (.str (s1 n0))) := by
  refine oV Tryz.func84 ⟨?_⟩
  repeat' (first | ((with_reducible refine fun (K1 : KT) hK => ?_); refine j6 ⟨?_⟩) | ((with_reducible show K1 _ _); subst hK; conv => whnf) | (with_reducible exact rfl) | refine y5 ⟨?_⟩ | ((with_reducible refine SplS.mk (fun h => ?_) (fun h => ?_)) <;> first | exact a7 | (subst h; conv => whnf) | (conv => whnf)) | refine p3 ⟨?_⟩ ⟨?_⟩ | (refine Exists.intro ({x : Int × List UInt8 // FmtI n0 x.1 x.2}) (Exists.intro (fun ⟨⟨n, l⟩, hI⟩ => x5 Tryz.f84.ntmps [(0, .dat (.i n)), (3, .dat (.str ⟨l.toArray⟩))] []) (Exists.intro (fun ⟨⟨n, l⟩, hI⟩ => n.toNat) (Exists.intro ⟨⟨n0, []⟩, fmtI_0 h0⟩ (And.intro (SubP.sub (σ := []) ⟨⟨rfl, rfl, rfl⟩, ⟨j0 ?_, j0 ?_, trivial⟩, trivial⟩) (fun ⟨⟨n, l⟩, hI⟩ => ?_))))); rotate_right; conv => whnf) | (refine Exists.intro (⟨⟨n / 10, UInt8.ofNat (48 + (n % 10).toNat) :: l⟩, ?_⟩ : {x : Int × List UInt8 // FmtI n0 x.1 x.2}) (And.intro ?_ (SubP.sub (σ := []) ⟨⟨rfl, rfl, rfl⟩, ⟨j0 ?_, j0 ?_, trivial⟩, trivial⟩))) | (intro h; conv => whnf))
  all_goals repeat clear hK K1
  all_goals first | (with_reducible assumption) | (with_reducible rfl) | (exfalso; omega) | exact fmtI_s hI asmR | exact fmt_s hI | exact fmt_q hI h1 | exact fZ hI asmR | exact (fZ hI asmR).symm | exact fmt_b (fmt_len hI h1) | exact fmt_mu hI asmR | rfl | omega | (dsimp only; omega) | skip
/-! ### words are joined -/
def w8 (l : List ByteArray) (b : ByteArray) : Nat → ByteArray
  | 0 => ⟨#[]⟩
  | k + 1 => (if k = 0 then w8 l b k else w8 l b k ++ b) ++ l.getD k ⟨#[]⟩
theorem hP {l : List ByteArray} {b : ByteArray} (hl : ∀ x ∈ l, x.size ≤ 100) (hb : b.size ≤ 1) : ∀ k, k ≤ l.length → (w8 l b k).size ≤ 101 * k
  | 0, _ => by show 0 ≤ _; omega
  | k + 1, h => by
    have ih := hP hl hb k omG
    have hx : (l.getD k ⟨#[]⟩).size ≤ 100 := by
      rw [List.getD_eq_getElem?_getD, List.getElem?_eq_getElem (show k < l.length by omega)]; exact hl _ (List.getElem_mem _)
    rw [w8, ByteArray.size_append]
    split
    · omega
    · rw [ByteArray.size_append]; omega
end Vg
