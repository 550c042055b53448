/- Numbers are read: contracts of strconv.Atoi, strings.Split and of the functions that read numbers. Condition: texts are no longer than the law lets through. -/
import Derived.Test.YtgbjdifegilniaaGreatDoorSplQ
import Derived.Lib.ItoaLen
namespace Vg
open Go Go.Proofs
set_option maxRecDepth 100000
set_option maxHeartbeats 40000000
theorem v_Atoi (s : ByteArray) (hs : s.size ≤ 1048576) : CallsV Tryz.prog 74 [.dat (.str s)] (.tup [.dat (.i (sA s).1), .dat (.err (sA s).2)]) :=
  atoiV Tryz.laysC172 rfl ⟨_, Tryz.func74, rfl, rfl⟩ (by decide) (by decide) s omG
theorem rZ (s : ByteArray) (hs : s.size ≤ 1048576) : CallsF Tryz.prog 35 [.dat (.str s), .dat (.str ⟨#[32]⟩)] true (fun res B => res = .row 0 ∧ B = [.row 9 .strs (o4 32 s) false]) := by
  have h := gT (P := Tryz.prog) (f := 35) (T := 9) Tryz.lays146 rfl rfl (by kernel_rfl) ⟨_, Tryz.func35, rfl, rfl⟩ (by decide) s ⟨#[32]⟩ omG (Nat.le_refl _) (oN 32 s) (by have := sQ 32 s; have hm : maxLen = 9223372036854775807 := rfl; omega)
  rwa [pN] at h
theorem str_eq {a b : ByteArray} (h : (a.toList == b.toList) = true) : a = b := by
  rw [Lib.toList_data, Lib.toList_data] at h
  have := eq_of_beq h
  exact ByteArray.ext (Array.ext' this)
theorem str_ne {a b : ByteArray} (h : (a.toList == b.toList) = false) : a ≠ b := fun e => by
  subst e
  have : (a.toList == a.toList) = true := beq_self_eq_true _
  rw [this] at h
  cases h
theorem di_eq {a b : Int} (h : a = b) : Dat.i a = Dat.int .i64 b := congrArg (Dat.int .i64) h
theorem db_eq {a b : Bool} (h : a = b) : Dat.bool a = Dat.bool b := congrArg Dat.bool h
theorem fJ (s : ByteArray) (hs : s.size ≤ 1048576) : CallsV Tryz.prog 36 [.dat (.str s)] (.tup [.dat (.i (x6 s).1), .dat (.bool (x6 s).2)]) := by
  refine oV Tryz.func36 ⟨?_⟩
  repeat' (first | ((with_reducible refine fun (K1 : KT) hK => ?_); refine j6 ⟨?_⟩) | ((with_reducible show K1 _ _); subst hK; conv => whnf) | (with_reducible exact rfl) | refine y5 ⟨?_⟩ | ((with_reducible refine SplS.mk (fun h => ?_) (fun h => ?_)) <;> first | exact a7 | ((fail_if_success (have _x : @Eq Bool _ _ := h)); subst h; conv => whnf) | (conv => whnf)) | refine p3 ⟨?_⟩ ⟨?_⟩ | ((with_reducible first | refine s0 (g := 74) ?_ | show Exists _); refine ⟨_, v_Atoi (hs := ?_) .., rfl, ?_⟩; rotate_right; conv => whnf) | ((with_reducible first | refine s0 (g := 75) ?_ | show Exists _); refine ⟨_, iS (h0 := ?_) (h1 := ?_) .., rfl, ?_⟩; rotate_right; conv => whnf) | (intro h; conv => whnf))
  all_goals repeat clear hK K1
  all_goals first | (with_reducible exact trivial) | (with_reducible assumption) | exact (rM s).1 | exact (rM s).2 | exact di_eq (by rw [kV asmR]) | exact db_eq (by rw [kV asmR]) | exact di_eq (by rw [jV (str_ne asmR)]) | exact db_eq (by rw [jV (str_ne asmR)]) | exact di_eq (by rw [lV (str_eq asmR)]) | exact db_eq (by rw [lV (str_eq asmR)])
def pB (s : ByteArray) (n : Nat) : Int := ((s.data.toList.getD n 0).toNat : Int)
def xA (s : ByteArray) : Int × Bool := if s.size = 2 ∧ pB s 0 = 114 ∧ 48 ≤ pB s 1 ∧ pB s 1 ≤ 51 then (pB s 1 - 48, true) else (0, false)
theorem iU {s : ByteArray} (h1 : (s.size : Int) = 2) (h2 : ((s.data.toList.getD (Int.toNat 0) 0).toNat : Int) = 114) (h3 : ¬ ((s.data.toList.getD (Int.toNat 1) 0).toNat : Int) < 48) (h4 : ¬ ((s.data.toList.getD (Int.toNat 1) 0).toNat : Int) > 51) :
    xA s = (IntKind.i64.wrap (IntKind.u8.wrap (((s.data.toList.getD (Int.toNat 1) 0).toNat : Int) - 48)), true) := by
  have e : IntKind.u8.wrap (((s.data.toList.getD (Int.toNat 1) 0).toNat : Int) - 48) = ((s.data.toList.getD (Int.toNat 1) 0).toNat : Int) - 48 := by
    generalize ((s.data.toList.getD (Int.toNat 1) 0).toNat : Int) = x at h3 h4
    simp only [IntKind.wrap]
    have q1 : (2 : Int) ^ IntKind.u8.bits = 256 := rfl
    have q3 : IntKind.u8.signed = false := rfl
    rw [q1, q3]
    simp
    omega
  rw [e, z1 omG omG]
  have c2 : pB s 0 = 114 := h2
  have c3 : ¬ pB s 1 < 48 := h3
  have c4 : ¬ pB s 1 > 51 := h4
  unfold xA
  rw [if_pos ⟨by omega, c2, by omega, by omega⟩]
  rfl
theorem mU {s : ByteArray} (h : ¬ (s.size : Int) = 2) : xA s = (0, false) := if_neg (fun k => h omG)
theorem lU {s : ByteArray} (h : ¬ ((s.data.toList.getD (Int.toNat 0) 0).toNat : Int) = 114) : xA s = (0, false) := if_neg (fun k => h k.2.1)
theorem kU {s : ByteArray} (h : ((s.data.toList.getD (Int.toNat 1) 0).toNat : Int) < 48) : xA s = (0, false) := if_neg (fun k => absurd h (Int.not_lt.2 k.2.2.1))
theorem jU {s : ByteArray} (h : ((s.data.toList.getD (Int.toNat 1) 0).toNat : Int) > 51) : xA s = (0, false) := if_neg (fun k => absurd h (Int.not_lt.2 k.2.2.2))
theorem qdp (s : ByteArray) : CallsV Tryz.prog 81 [.dat (.str s)] (.tup [.dat (.i (xA s).1), .dat (.bool (xA s).2)]) := by
  refine oV Tryz.func81 ⟨?_⟩
  repeat' (first | ((with_reducible refine fun (K1 : KT) hK => ?_); refine j6 ⟨?_⟩) | ((with_reducible show K1 _ _); subst hK; conv => whnf) | (with_reducible exact rfl) | refine y5 ⟨?_⟩ | ((with_reducible refine SplS.mk (fun h => ?_) (fun h => ?_)) <;> first | exact a7 | (subst h; conv => whnf) | (conv => whnf)) | refine p3 ⟨?_⟩ ⟨?_⟩ | (intro h; conv => whnf))
  all_goals repeat clear hK K1
  all_goals first | (with_reducible exact trivial) | (exact di_eq (by rw [iU asmR asmR asmR asmR])) | (exact db_eq (by rw [iU asmR asmR asmR asmR])) | exact di_eq (by rw [mU asmR]) | exact db_eq (by rw [mU asmR]) | exact di_eq (by rw [lU asmR]) | exact db_eq (by rw [lU asmR]) | exact di_eq (by rw [kU asmR]) | exact db_eq (by rw [kU asmR]) | exact di_eq (by rw [jU asmR]) | exact db_eq (by rw [jU asmR]) | omega
noncomputable def s6 (s : ByteArray) : Int := if (xA s).2 = true then (xA s).1 else (x6 s).1
theorem qdq (s : ByteArray) (hs : s.size ≤ 1048576) : CallsV Tryz.prog 48 [.dat (.str s)] (.dat (.i (s6 s))) := by
  refine oV Tryz.func48 ⟨?_⟩
  repeat' (first | ((with_reducible refine fun (K1 : KT) hK => ?_); refine j6 ⟨?_⟩) | ((with_reducible show K1 _ _); subst hK; conv => whnf) | (with_reducible exact rfl) | refine y5 ⟨?_⟩ | ((with_reducible refine SplS.mk (fun h => ?_) (fun h => ?_)) <;> first | exact a7 | (subst h; conv => whnf) | (conv => whnf)) | ((with_reducible first | refine s0 (g := 81) ?_ | show Exists _); refine ⟨_, qdp .., rfl, ?_⟩; rotate_right; conv => whnf) | ((with_reducible first | refine s0 (g := 36) ?_ | show Exists _); refine ⟨_, fJ (hs := ?_) .., rfl, ?_⟩; rotate_right; conv => whnf) | (intro h; conv => whnf))
  all_goals repeat clear hK K1
  all_goals first
    | (with_reducible assumption)
    | exact di_eq (if_pos (by assumption))
    | (have q : (xA s).2 = false := by assumption
       exact di_eq (if_neg (by rw [q]; decide)))
/-! ### the reference's numbers -/
end Vg
