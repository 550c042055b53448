/- Facts are printed: contracts of the functions that print numbers, registers and facts, and of the law FnExactFormatFact. Condition: lists are no longer than the law lets through. -/
import Derived.Test.YtndmanmhalpjgaaGreatDoorBase
import Derived.Test.YtndmanmhalpjgaaGreatDoorRet
namespace Vg
open Go Go.Proofs
set_option maxRecDepth 100000
set_option maxHeartbeats 40000000
def p5 (n : Int) : ByteArray := ⟨(Lib.itoa n).toArray⟩
theorem oP (n : Int) (h0 : -9223372036854775808 ≤ n) (h1 : n ≤ 9223372036854775807) : CallsV Tryz.prog 47 [.dat (.i n)] (.dat (.str (p5 n))) :=
  itoaV Tryz.laysM171 rfl ⟨_, Tryz.func47, rfl, rfl⟩ (by kernel_rfl) (List.mem_singleton.2 rfl) n h0 h1
theorem iT (n : Int) (h0 : -9223372036854775808 ≤ n) (h1 : n ≤ 9223372036854775807) : CallsV Tryz.prog 23 [.dat (.i n)] (.dat (.str (p5 n))) := by
  refine oV Tryz.func23 ⟨?_⟩
  repeat' (first | ((with_reducible refine fun (K1 : KT) hK => ?_); refine j4 ⟨?_⟩) | ((with_reducible show K1 _ _); subst hK; conv => whnf) | (with_reducible exact rfl) | refine m0 ⟨?_⟩ | ((with_reducible refine SplS.mk (fun h => ?_) (fun h => ?_)) <;> first | exact z1 | (subst h; conv => whnf) | (conv => whnf)) | ((with_reducible first | refine g0 (g := 47) ?_ | show Exists _); refine ⟨_, oP (h0 := ?_) (h1 := ?_) .., rfl, ?_⟩; rotate_right; conv => whnf) | (intro h; conv => whnf))
  all_goals repeat clear hK K1
  all_goals first | (with_reducible assumption) | rfl | skip
/-! ### numerals are short -/
theorem mU : ∀ (k u : Nat), u < 10 ^ (k + 1) → (Lib.decDigits u).length ≤ k + 1
  | 0, u, h => by rw [Lib.decDigits, dif_pos (by simpa using h)]; simp
  | k + 1, u, h => by
    rw [Lib.decDigits]
    split
    · simp
    · have := mU k (u / 10) (by rw [Nat.pow_succ] at h; omega)
      rw [List.length_append]; simp; omega
theorem mD {n : Int} (h0 : 0 ≤ n) (h1 : n < 1000) : (p5 n).size ≤ 3 := by
  show (Lib.itoa n).toArray.size ≤ 3
  unfold Lib.itoa
  rw [if_neg omG]
  simpa using mU 2 n.toNat omG
def i6 (n : Int) : ByteArray := ⟨#[114]⟩ ++ p5 n
theorem aF {n : Int} (h0 : 0 ≤ n) (h1 : n < 1000) : (i6 n).size ≤ 4 := by
  have := mD h0 h1
  unfold i6
  rw [ByteArray.size_append]
  show 1 + _ ≤ 4
  omega
theorem xY (n : Int) (h0 : 0 ≤ n) (h1 : n < 1000) : CallsV Tryz.prog 22 [.dat (.i n)] (.dat (.str (i6 n))) := by
  refine oV Tryz.func22 ⟨?_⟩
  repeat' (first | ((with_reducible refine fun (K1 : KT) hK => ?_); refine j4 ⟨?_⟩) | ((with_reducible show K1 _ _); subst hK; conv => whnf) | (with_reducible exact rfl) | refine m0 ⟨?_⟩ | ((with_reducible refine SplS.mk (fun h => ?_) (fun h => ?_)) <;> first | exact z1 | (subst h; conv => whnf) | (conv => whnf)) | refine u2 ⟨?_⟩ ⟨?_⟩ | ((with_reducible first | refine g0 (g := 23) ?_ | show Exists _); refine ⟨_, iT (h0 := ?_) (h1 := ?_) .., rfl, ?_⟩; rotate_right; conv => whnf) | (intro h; conv => whnf))
  all_goals repeat clear hK K1
  all_goals first | (with_reducible assumption) | rfl | omega | (have q := mD h0 h1; have hm : maxLen = 9223372036854775807 := rfl; show 1 + (p5 n).size ≤ maxLen; omega) | skip
def i8 (k : Int) : ByteArray :=
  if k = 1 then ⟨#[105, 115]⟩ else if k = 2 then ⟨#[115, 97, 109, 101]⟩ else if k = 3 then ⟨#[109, 111, 115, 116]⟩ else if k = 4 then ⟨#[98, 105, 116]⟩ else if k = 5 then ⟨#[115, 117, 109]⟩ else ⟨#[111, 114, 100, 101, 114]⟩
theorem yF (k : Int) : (i8 k).size ≤ 5 := by
  unfold i8
  repeat' split
  all_goals decide
theorem fT (k : Int) : CallsV Tryz.prog 20 [.dat (.i k)] (.dat (.str (i8 k))) := by
  refine oV Tryz.func20 ⟨?_⟩
  repeat' (first | ((with_reducible refine fun (K1 : KT) hK => ?_); refine j4 ⟨?_⟩) | ((with_reducible show K1 _ _); subst hK; conv => whnf) | (with_reducible exact rfl) | refine m0 ⟨?_⟩ | ((with_reducible refine SplS.mk (fun h => ?_) (fun h => ?_)) <;> first | exact z1 | (subst h; conv => whnf) | (conv => whnf)) | (intro h; conv => whnf))
  all_goals repeat clear hK K1
  all_goals first | rfl | (simp only [i8, *, if_false]; done) | (unfold i8; simp [*]; done) | skip
/-! ### numbers as the reference prints them -/
theorem dig_pos (u : Nat) : 1 ≤ (Lib.decDigits u).length := by rw [Lib.decDigits]; split <;> simp
/-! ### words are joined -/
end Vg
