/- Numbers are read: contracts of strconv.Atoi, strings.Split and of the functions that read numbers. Condition: texts are no longer than the law lets through. -/
import Derived.Test.YtcdepophgnlphaaDoorSplQ
import Derived.Lib.ItoaLen
namespace Vg
open Go Go.Proofs
set_option maxRecDepth 100000
set_option maxHeartbeats 40000000
theorem v_Atoi (s : ByteArray) (hs : s.size ≤ 1048576) : CallsV Tryd.prog 57 [.dat (.str s)] (.tup [.dat (.i (k9 s).1), .dat (.err (k9 s).2)]) :=
  atoiV Tryd.laysC172 rfl ⟨_, Tryd.func57, rfl, rfl⟩ (by decide) (by decide) s omG
theorem str_eq {a b : ByteArray} (h : (a.toList == b.toList) = true) : a = b := by
  rw [Lib.toList_data, Lib.toList_data] at h
  have := eq_of_beq h
  exact ByteArray.ext (Array.ext' this)
theorem str_ne {a b : ByteArray} (h : (a.toList == b.toList) = false) : a ≠ b := fun e => by
  subst e
  have : (a.toList == a.toList) = true := beq_self_eq_true _
  rw [this] at h
  cases h
theorem di_eq {a b : Int} (h : a = b) : Dat.i a = Dat.int .i64 b := congrArg (Dat.int .i64) h
theorem db_eq {a b : Bool} (h : a = b) : Dat.bool a = Dat.bool b := congrArg Dat.bool h
theorem wU (s : ByteArray) (hs : s.size ≤ 1048576) : CallsV Tryd.prog 46 [.dat (.str s)] (.tup [.dat (.i (s4 s).1), .dat (.bool (s4 s).2)]) := by
  refine oV Tryd.func46 ⟨?_⟩
  repeat' (first | ((with_reducible refine fun (K1 : KT) hK => ?_); refine g6 ⟨?_⟩) | ((with_reducible show K1 _ _); subst hK; conv => whnf) | (with_reducible exact rfl) | refine f4 ⟨?_⟩ | ((with_reducible refine SplS.mk (fun h => ?_) (fun h => ?_)) <;> first | exact o6 | ((fail_if_success (have _x : @Eq Bool _ _ := h)); subst h; conv => whnf) | (conv => whnf)) | refine g5 ⟨?_⟩ ⟨?_⟩ | ((with_reducible first | refine p3 (g := 57) ?_ | show Exists _); refine ⟨_, v_Atoi (hs := ?_) .., rfl, ?_⟩; rotate_right; conv => whnf) | ((with_reducible first | refine p3 (g := 58) ?_ | show Exists _); refine ⟨_, qP (h0 := ?_) (h1 := ?_) .., rfl, ?_⟩; rotate_right; conv => whnf) | (intro h; conv => whnf))
  all_goals repeat clear hK K1
  all_goals first | (with_reducible exact trivial) | (with_reducible assumption) | exact (kK s).1 | exact (kK s).2 | exact di_eq (by rw [vR asmR]) | exact db_eq (by rw [vR asmR]) | exact di_eq (by rw [uR (str_ne asmR)]) | exact db_eq (by rw [uR (str_ne asmR)]) | exact di_eq (by rw [wR (str_eq asmR)]) | exact db_eq (by rw [wR (str_eq asmR)])
def y9 (s : ByteArray) (n : Nat) : Int := ((s.data.toList.getD n 0).toNat : Int)
def regX (s : ByteArray) : Int × Bool := if s.size = 2 ∧ y9 s 0 = 114 ∧ 48 ≤ y9 s 1 ∧ y9 s 1 ≤ 51 then (y9 s 1 - 48, true) else (0, false)
noncomputable def opI (s : ByteArray) : Int := if (regX s).2 = true then (regX s).1 else (s4 s).1
/-! ### the reference's numbers -/
theorem td10 {n : Int} (h : n < 0) : n.tdiv 10 = -((n.natAbs / 10 : Nat) : Int) ∧ n.tmod 10 = -((n.natAbs % 10 : Nat) : Int) := by
  obtain ⟨u, rfl⟩ : ∃ u : Nat, n = -(u : Int) := ⟨n.natAbs, by omega⟩
  rw [Int.neg_tdiv, Int.neg_tmod, Int.natAbs_neg, Int.natAbs_natCast]
  exact ⟨rfl, rfl⟩
theorem xM {n : Int} (h : n < 0) : u2 n = ⟨#[45]⟩ ++ m0 (Lib.decDigits n.natAbs) := by
  unfold u2 Lib.itoa
  rw [if_pos h]
  exact iL _ _
theorem mkB_app (a b : List UInt8) : m0 (a ++ b) = m0 a ++ m0 b := by
  apply ByteArray.ext
  rw [ByteArray.data_append]
  simp [m0]
theorem fn_1 {n : Int} (h0 : -9223372036854775808 ≤ n) (h : n < 0) (hz : IntKind.i64.wrap (n.tdiv 10) = 0) : Dat.str (u2 n) = Dat.str (⟨#[45]⟩ ++ strOfNums [IntKind.u8.wrap (IntKind.i64.wrap (48 - n))]) := by
  have h10 := (td10 h).1
  rw [g4 omG omG, h10] at hz
  have hu : n.natAbs < 10 := by omega
  have e : (48 : Int) - n = 48 + (n.natAbs : Int) := by omega
  rw [e, eI hu, xM h, Lib.decDigits, dif_pos hu]; rfl
theorem fn_2 {n : Int} (h0 : -9223372036854775808 ≤ n) (h : n < 0) (hz : ¬ IntKind.i64.wrap (n.tdiv 10) = 0) : Dat.str (u2 n) = Dat.str (u2 (IntKind.i64.wrap (n.tdiv 10)) ++ strOfNums [IntKind.u8.wrap (IntKind.i64.wrap (48 - n.tmod 10))]) := by
  have h10 := td10 h
  rw [g4 omG omG, h10.1] at hz ⊢
  have hu : ¬ n.natAbs < 10 := by omega
  have e : (48 : Int) - n.tmod 10 = 48 + ((n.natAbs % 10 : Nat) : Int) := by omega
  have ea : (-((n.natAbs / 10 : Nat) : Int)).natAbs = n.natAbs / 10 := by omega
  rw [e, eI omG, xM h, xM omG, ea, Lib.decDigits, dif_neg hu, mkB_app, ByteArray.append_assoc]; rfl
theorem hH {n : Int} (h0 : -9223372036854775808 ≤ n) (h : n < 0) (hz : ¬ IntKind.i64.wrap (n.tdiv 10) = 0) : IntKind.i64.wrap (n.tdiv 10) < 0 ∧ -9223372036854775808 ≤ IntKind.i64.wrap (n.tdiv 10) ∧ (IntKind.i64.wrap (n.tdiv 10)).natAbs < n.natAbs := by
  have h10 := td10 h
  rw [g4 omG omG, h10.1] at hz ⊢
  omega
theorem qa1 {n : Int} (h0 : -9223372036854775808 ≤ n) (h1 : n ≤ 9223372036854775807) : (u2 n).size ≤ 21 := by
  show (Lib.itoa n).toArray.size ≤ 21
  simpa using Lib.itoa_length_le n h0 h1
theorem fmt_q' {n0 n : Int} {l : List UInt8} (h : FmtI n0 n l) (h1 : n0 ≤ 9223372036854775807) : Dat.i (n / 10) = Dat.int .i64 (IntKind.i64.wrap (n.tdiv 10)) := by
  have e : n.tdiv 10 = n / 10 := Int.tdiv_eq_ediv_of_nonneg h.nn
  have := h.le; have := h.nn
  rw [e, g4 omG omG]
theorem qbn {n0 n : Int} {l : List UInt8} (h : FmtI n0 n l) (h1 : n0 ≤ 9223372036854775807) : l.length ≤ 20 := by
  have := h.nn; have := h.le
  have := sH 19 n0.toNat omG
  have := h.len
  omega
theorem str1 (n : Int) : (strOfNums [n]).size = 1 := rfl
theorem fmt_b' {l : List UInt8} {x : ByteArray} (h : l.length ≤ 20) (hx : x.size = 1) : x.size + (⟨l.toArray⟩ : ByteArray).size ≤ maxLen := by
  have e : (⟨l.toArray⟩ : ByteArray).size = l.length := List.size_toArray ..
  have hm : maxLen = 9223372036854775807 := rfl
  omega
theorem qV {x y : ByteArray} (h : x.size ≤ 21) (hx : y.size = 1) : x.size + y.size ≤ maxLen := by
  have hm : maxLen = 9223372036854775807 := rfl
  omega
theorem s_FormatIntS (n0 : Int) (hl : -9223372036854775808 ≤ n0) (hh : n0 ≤ 9223372036854775807) (ih : ∀ (m : Int) (_h1 : m < 0) (_h2 : -9223372036854775808 ≤ m) (_h3 : m.natAbs < n0.natAbs), CallsV Tryd.prog 28 [.dat (.i m)] (.dat (.str (u2 m)))) : CallsV Tryd.prog 28 [.dat (.i n0)] (.dat (.str (u2 n0))) := by
  refine oV Tryd.func28 ⟨?_⟩
  repeat' (first | ((with_reducible refine fun (K1 : KT) hK => ?_); refine g6 ⟨?_⟩) | ((with_reducible show K1 _ _); subst hK; conv => whnf) | (with_reducible exact rfl) | refine f4 ⟨?_⟩ | ((with_reducible refine SplS.mk (fun h => ?_) (fun h => ?_)) <;> first | exact o6 | (subst h; conv => whnf) | (conv => whnf)) | refine g5 ⟨?_⟩ ⟨?_⟩ | (refine Exists.intro ({x : Int × List UInt8 // FmtI n0 x.1 x.2}) (Exists.intro (fun ⟨⟨n, l⟩, hI⟩ => x5 Tryd.f28.ntmps [(0, .dat (.i n)), (3, .dat (.str ⟨l.toArray⟩))] []) (Exists.intro (fun ⟨⟨n, l⟩, hI⟩ => n.toNat) (Exists.intro ⟨⟨n0, []⟩, fmtI_0 omG⟩ (And.intro (SubP.sub (σ := []) ⟨⟨rfl, rfl, rfl⟩, ⟨j0 ?_, j0 ?_, trivial⟩, trivial⟩) (fun ⟨⟨n, l⟩, hI⟩ => ?_))))); rotate_right; conv => whnf) | (refine Exists.intro (⟨⟨n / 10, UInt8.ofNat (48 + (n % 10).toNat) :: l⟩, ?_⟩ : {x : Int × List UInt8 // FmtI n0 x.1 x.2}) (And.intro ?_ (SubP.sub (σ := []) ⟨⟨rfl, rfl, rfl⟩, ⟨j0 ?_, j0 ?_, trivial⟩, trivial⟩))) | ((with_reducible first | refine p3 (g := 28) ?_ | show Exists _); refine ⟨_, ih (_h1 := ?_) (_h2 := ?_) (_h3 := ?_) .., rfl, ?_⟩; rotate_right; conv => whnf) | (intro h; conv => whnf))
  all_goals repeat clear hK K1
  all_goals first | (with_reducible assumption) | (with_reducible rfl) | (with_reducible exact fn_1 hl asmR asmR) | (with_reducible exact fn_2 hl asmR asmR) | (with_reducible exact (hH hl asmR asmR).1) | (with_reducible exact (hH hl asmR asmR).2.1) | (with_reducible exact (hH hl asmR asmR).2.2) | (with_reducible exact fmt_s hI) | (with_reducible exact fmt_q' hI hh) | (with_reducible exact zJ hI asmR) | (with_reducible exact (zJ hI asmR).symm) | (with_reducible exact fmt_b' (qbn hI hh) (str1 _)) | (with_reducible exact qV (show (⟨#[45]⟩ : ByteArray).size ≤ 21 from by decide) (str1 _)) | (with_reducible exact qV (qa1 (hH hl asmR asmR).2.1 (by have q := (hH hl asmR asmR).1; omega)) (str1 _)) | (exfalso; omega) | exact sV hI asmR | exact pV hI asmR | omega | (dsimp only; omega) | rfl | skip
theorem fZ (n : Int) (hl : -9223372036854775808 ≤ n) (hh : n ≤ 9223372036854775807) : CallsV Tryd.prog 28 [.dat (.i n)] (.dat (.str (u2 n))) := by
  have key : ∀ (k : Nat) (m : Int), m.natAbs < k → -9223372036854775808 ≤ m → m ≤ 9223372036854775807 → CallsV Tryd.prog 28 [.dat (.i m)] (.dat (.str (u2 m))) := by
    intro k
    induction k with
    | zero => intro m h; omega
    | succ k ih => intro m h h0 h1; exact s_FormatIntS m h0 h1 (fun x hx hx0 hxa => ih x omG hx0 omG)
  exact key (n.natAbs + 1) n omG hl hh
end Vg
