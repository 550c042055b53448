/- Numbers are read: contracts of strconv.Atoi, strings.Split and of the functions that read numbers. Condition: texts are no longer than the law lets through. -/
import Derived.Test.YtndmanmhalpjgaaGreatDoorSplQ
import Derived.Lib.ItoaLen
namespace Vg
open Go Go.Proofs
set_option maxRecDepth 100000
set_option maxHeartbeats 40000000
theorem v_Atoi (s : ByteArray) (hs : s.size ≤ 1048576) : CallsV Tryz.prog 59 [.dat (.str s)] (.tup [.dat (.i (bA s).1), .dat (.err (bA s).2)]) :=
  atoiV Tryz.laysC172 rfl ⟨_, Tryz.func59, rfl, rfl⟩ (by decide) (by decide) s omG
theorem f_Split (s : ByteArray) (hs : s.size ≤ 1048576) : CallsF Tryz.prog 18 [.dat (.str s), .dat (.str ⟨#[32]⟩)] true (fun res B => res = .row 0 ∧ B = [.row 9 .strs (s7 32 s) false]) := by
  have h := splitF (P := Tryz.prog) (f := 18) (T := 9) Tryz.lays146 rfl rfl (by kernel_rfl) ⟨_, Tryz.func18, rfl, rfl⟩ (by decide) s ⟨#[32]⟩ omG (Nat.le_refl _) (kW 32 s) (by have := qax 32 s; have hm : maxLen = 9223372036854775807 := rfl; omega)
  rwa [lW] at h
theorem str_eq {a b : ByteArray} (h : (a.toList == b.toList) = true) : a = b := by
  rw [Lib.toList_data, Lib.toList_data] at h
  have := eq_of_beq h
  exact ByteArray.ext (Array.ext' this)
theorem str_ne {a b : ByteArray} (h : (a.toList == b.toList) = false) : a ≠ b := fun e => by
  subst e
  have : (a.toList == a.toList) = true := beq_self_eq_true _
  rw [this] at h
  cases h
theorem di_eq {a b : Int} (h : a = b) : Dat.i a = Dat.int .i64 b := congrArg (Dat.int .i64) h
theorem db_eq {a b : Bool} (h : a = b) : Dat.bool a = Dat.bool b := congrArg Dat.bool h
theorem rZ (s : ByteArray) (hs : s.size ≤ 1048576) : CallsV Tryz.prog 44 [.dat (.str s)] (.tup [.dat (.i (wA s).1), .dat (.bool (wA s).2)]) := by
  refine oV Tryz.func44 ⟨?_⟩
  repeat' (first | ((with_reducible refine fun (K1 : KT) hK => ?_); refine j4 ⟨?_⟩) | ((with_reducible show K1 _ _); subst hK; conv => whnf) | (with_reducible exact rfl) | refine m0 ⟨?_⟩ | ((with_reducible refine SplS.mk (fun h => ?_) (fun h => ?_)) <;> first | exact z1 | ((fail_if_success (have _x : @Eq Bool _ _ := h)); subst h; conv => whnf) | (conv => whnf)) | refine u2 ⟨?_⟩ ⟨?_⟩ | ((with_reducible first | refine g0 (g := 59) ?_ | show Exists _); refine ⟨_, v_Atoi (hs := ?_) .., rfl, ?_⟩; rotate_right; conv => whnf) | ((with_reducible first | refine g0 (g := 47) ?_ | show Exists _); refine ⟨_, oP (h0 := ?_) (h1 := ?_) .., rfl, ?_⟩; rotate_right; conv => whnf) | (intro h; conv => whnf))
  all_goals repeat clear hK K1
  all_goals first | (with_reducible exact trivial) | (with_reducible assumption) | exact (fL s).1 | exact (fL s).2 | exact di_eq (by rw [jR asmR]) | exact db_eq (by rw [jR asmR]) | exact di_eq (by rw [iR (str_ne asmR)]) | exact db_eq (by rw [iR (str_ne asmR)]) | exact di_eq (by rw [kR (str_eq asmR)]) | exact db_eq (by rw [kR (str_eq asmR)])
def iB (s : ByteArray) (n : Nat) : Int := ((s.data.toList.getD n 0).toNat : Int)
def lA (s : ByteArray) : Int × Bool := if s.size = 2 ∧ iB s 0 = 114 ∧ 48 ≤ iB s 1 ∧ iB s 1 ≤ 51 then (iB s 1 - 48, true) else (0, false)
theorem sQ {s : ByteArray} (h1 : (s.size : Int) = 2) (h2 : ((s.data.toList.getD (Int.toNat 0) 0).toNat : Int) = 114) (h3 : ¬ ((s.data.toList.getD (Int.toNat 1) 0).toNat : Int) < 48) (h4 : ¬ ((s.data.toList.getD (Int.toNat 1) 0).toNat : Int) > 51) :
    lA s = (IntKind.i64.wrap (IntKind.u8.wrap (((s.data.toList.getD (Int.toNat 1) 0).toNat : Int) - 48)), true) := by
  have e : IntKind.u8.wrap (((s.data.toList.getD (Int.toNat 1) 0).toNat : Int) - 48) = ((s.data.toList.getD (Int.toNat 1) 0).toNat : Int) - 48 := by
    generalize ((s.data.toList.getD (Int.toNat 1) 0).toNat : Int) = x at h3 h4
    simp only [IntKind.wrap]
    have q1 : (2 : Int) ^ IntKind.u8.bits = 256 := rfl
    have q3 : IntKind.u8.signed = false := rfl
    rw [q1, q3]
    simp
    omega
  rw [e, u4 omG omG]
  have c2 : iB s 0 = 114 := h2
  have c3 : ¬ iB s 1 < 48 := h3
  have c4 : ¬ iB s 1 > 51 := h4
  unfold lA
  rw [if_pos ⟨by omega, c2, by omega, by omega⟩]
  rfl
theorem wQ {s : ByteArray} (h : ¬ (s.size : Int) = 2) : lA s = (0, false) := if_neg (fun k => h omG)
theorem vQ {s : ByteArray} (h : ¬ ((s.data.toList.getD (Int.toNat 0) 0).toNat : Int) = 114) : lA s = (0, false) := if_neg (fun k => h k.2.1)
theorem uQ {s : ByteArray} (h : ((s.data.toList.getD (Int.toNat 1) 0).toNat : Int) < 48) : lA s = (0, false) := if_neg (fun k => absurd h (Int.not_lt.2 k.2.2.1))
theorem tQ {s : ByteArray} (h : ((s.data.toList.getD (Int.toNat 1) 0).toNat : Int) > 51) : lA s = (0, false) := if_neg (fun k => absurd h (Int.not_lt.2 k.2.2.2))
theorem gZ (s : ByteArray) : CallsV Tryz.prog 43 [.dat (.str s)] (.tup [.dat (.i (lA s).1), .dat (.bool (lA s).2)]) := by
  refine oV Tryz.func43 ⟨?_⟩
  repeat' (first | ((with_reducible refine fun (K1 : KT) hK => ?_); refine j4 ⟨?_⟩) | ((with_reducible show K1 _ _); subst hK; conv => whnf) | (with_reducible exact rfl) | refine m0 ⟨?_⟩ | ((with_reducible refine SplS.mk (fun h => ?_) (fun h => ?_)) <;> first | exact z1 | (subst h; conv => whnf) | (conv => whnf)) | refine u2 ⟨?_⟩ ⟨?_⟩ | (intro h; conv => whnf))
  all_goals repeat clear hK K1
  all_goals first | (with_reducible exact trivial) | (exact di_eq (by rw [sQ asmR asmR asmR asmR])) | (exact db_eq (by rw [sQ asmR asmR asmR asmR])) | exact di_eq (by rw [wQ asmR]) | exact db_eq (by rw [wQ asmR]) | exact di_eq (by rw [vQ asmR]) | exact db_eq (by rw [vQ asmR]) | exact di_eq (by rw [uQ asmR]) | exact db_eq (by rw [uQ asmR]) | exact di_eq (by rw [tQ asmR]) | exact db_eq (by rw [tQ asmR]) | omega
noncomputable def y7 (s : ByteArray) : Int := if (lA s).2 = true then (lA s).1 else (wA s).1
theorem hZ (s : ByteArray) (hs : s.size ≤ 1048576) : CallsV Tryz.prog 19 [.dat (.str s)] (.dat (.i (y7 s))) := by
  refine oV Tryz.func19 ⟨?_⟩
  repeat' (first | ((with_reducible refine fun (K1 : KT) hK => ?_); refine j4 ⟨?_⟩) | ((with_reducible show K1 _ _); subst hK; conv => whnf) | (with_reducible exact rfl) | refine m0 ⟨?_⟩ | ((with_reducible refine SplS.mk (fun h => ?_) (fun h => ?_)) <;> first | exact z1 | (subst h; conv => whnf) | (conv => whnf)) | ((with_reducible first | refine g0 (g := 43) ?_ | show Exists _); refine ⟨_, gZ .., rfl, ?_⟩; rotate_right; conv => whnf) | ((with_reducible first | refine g0 (g := 44) ?_ | show Exists _); refine ⟨_, rZ (hs := ?_) .., rfl, ?_⟩; rotate_right; conv => whnf) | (intro h; conv => whnf))
  all_goals repeat clear hK K1
  all_goals first
    | (with_reducible assumption)
    | exact di_eq (if_pos (by assumption))
    | (have q : (lA s).2 = false := by assumption
       exact di_eq (if_neg (by rw [q]; decide)))
/-! ### the reference's numbers -/
end Vg
