/- Numbers, formulas and instructions are printed and read by the program: contracts. Condition: what is printed is small. -/
import Derived.Test.YtgbjdifegilniaaGreatDoorTxtN
import Derived.Test.YtgbjdifegilniaaGreatDoorFit
import Derived.Test.YtgbjdifegilniaaGreatDoorRet
import Derived.Test.YtgbjdifegilniaaGreatDoorRg
namespace Vg
open Go Go.Proofs
set_option maxRecDepth 100000
set_option maxHeartbeats 40000000
theorem iP (l : List ByteArray) (b : ByteArray) : ∀ k, k ≤ l.length → (w8 l b k).data.toList = Lib.join ((l.take k).map (·.data.toList)) b.data.toList
  | 0, _ => rfl
  | k + 1, h => by
    have ih := iP l b k omG
    have hk : k < l.length := by omega
    have e : l.getD k ⟨#[]⟩ = l[k] := by rw [List.getD_eq_getElem?_getD, List.getElem?_eq_getElem hk]; rfl
    rw [w8, e, List.take_succ_eq_append_getElem hk, List.map_append, List.map_cons, List.map_nil]
    by_cases c : k = 0
    · subst c
      rw [if_pos rfl, ByteArray.data_append, Array.toList_append, ih]
      simp [Lib.join_one, Lib.join_nil]
    · rw [if_neg c, ByteArray.data_append, Array.toList_append, ByteArray.data_append, Array.toList_append, ih]
      obtain ⟨x, r, hx⟩ : ∃ x r, (l.take k).map (·.data.toList) = x :: r := by
        cases hq : (l.take k).map (·.data.toList) with
        | nil =>
          have := congrArg List.length hq
          rw [List.length_map, List.length_take, List.length_nil] at this
          omega
        | cons x r => exact ⟨x, r, rfl⟩
      rw [hx, List.cons_append, Lib.join_cons, Lib.join_cons]
      simp [Lib.joinTail, List.append_assoc]
theorem qdd (l : List ByteArray) (b : ByteArray) : sG l b = w8 l b l.length := by
  have h := iP l b l.length (Nat.le_refl _)
  rw [List.take_length] at h
  unfold sG
  rw [← h]
theorem v_Join (l : List ByteArray) (hl : l.length ≤ 1000) (hs : ∀ x ∈ l, x.size ≤ 100) : CallsV Tryz.prog 78 [.dat (.seq .strs l), .dat (.str ⟨#[32]⟩)] (.dat (.str (w8 l ⟨#[32]⟩ l.length))) := by
  have q := hP hs (b := ⟨#[32]⟩) (by decide) l.length (Nat.le_refl _)
  have h := joinV Tryz.lays156 Tryz.Builder_Extra_156 rfl ⟨_, Tryz.func78, rfl, rfl⟩ l ⟨#[32]⟩ omG (by
    have h2 := iP l ⟨#[32]⟩ l.length (Nat.le_refl _)
    rw [List.take_length] at h2
    rw [← h2]
    show (w8 l ⟨#[32]⟩ l.length).data.size ≤ _
    have : (w8 l ⟨#[32]⟩ l.length).data.size = (w8 l ⟨#[32]⟩ l.length).size := rfl
    omega)
  rwa [qdd] at h
theorem qZ (c : UInt8) (s : ByteArray) (hs : s.size ≤ 1048576) : CallsF Tryz.prog 35 [.dat (.str s), .dat (.str ⟨#[c]⟩)] true (fun res B => res = .row 0 ∧ B = [.row 9 .strs (o4 c s) false]) := by
  have h := gT (P := Tryz.prog) (f := 35) (T := 9) Tryz.lays146 rfl rfl (by kernel_rfl) ⟨_, Tryz.func35, rfl, rfl⟩ (by decide) s ⟨#[c]⟩ omG (Nat.le_refl _) (oN c s) (by have := sQ c s; have hm : maxLen = 9223372036854775807 := rfl; omega)
  rwa [pN] at h
/-! ### numbers -/
structure PrtK (l : List Int) (k : Nat) : Prop where
  h : k ≤ l.length
theorem qc3 {l : List Int} {k : Nat} (h : (k : Int) < l.length) : (l.map s1).getD k K.strs.dflt = s1 (l.getD (k : Int).toNat K.ints.dflt) := by
  have h' : k < l.length := by omega
  rw [Int.toNat_natCast, List.getD_eq_getElem?_getD, List.getElem?_map, List.getElem?_eq_getElem h', List.getD_eq_getElem?_getD, List.getElem?_eq_getElem h']; rfl
theorem map_set {l : List Int} {k : Nat} (h : (k : Int) < l.length) : ((l.map s1).take k ++ List.replicate ((l.map s1).length - k) ByteArray.empty).set (k : Int).toNat (s1 (l.getD (k : Int).toNat K.ints.dflt)) = (l.map s1).take (k + 1) ++ List.replicate ((l.map s1).length - (k + 1)) ByteArray.empty := by
  rw [← qc3 h, Int.toNat_natCast]
  exact set_mid K.strs.dflt ByteArray.empty (by rw [List.length_map]; exact h)
theorem oW {l : List Int} {k : Nat} (h : ¬ (k : Int) < l.length) : (l.map s1).take k ++ List.replicate ((l.map s1).length - k) ByteArray.empty = l.map s1 := qbm (by rw [List.length_map]; exact h)
theorem map_len {l : List Int} {k : Nat} (h : k ≤ l.length) : ((l.map s1).take k ++ List.replicate ((l.map s1).length - k) ByteArray.empty).length = l.length := by
  rw [List.length_append, List.length_take, List.length_replicate, List.length_map]; omega
theorem qcr {l : List Int} {k : Nat} (h : lB l = true) (hk : (k : Int) < l.length) : -9223372036854775808 ≤ l.getD (k : Int).toNat K.ints.dflt := by
  have q := (dL h hk).1
  exact Int.le_trans (by decide) q
theorem qcs {l : List Int} {k : Nat} (h : lB l = true) (hk : (k : Int) < l.length) : l.getD (k : Int).toNat K.ints.dflt ≤ 9223372036854775807 := by
  have q := (dL h hk).2
  exact Int.le_trans q (by decide)
theorem oY (l : List Int) (hl : l.length ≤ 1000) (hn : lB l = true) : CallsV Tryz.prog 41 [.dat (.seq .ints l)] (.dat (.str (n5 l))) := by
  refine oV Tryz.func41 ⟨?_⟩
  repeat' (first | ((with_reducible refine fun (K1 : KT) hK => ?_); refine stR ⟨?_⟩) | ((with_reducible show K1 _ _); subst hK; conv => whnf) | (with_reducible exact rfl) | refine y5 ⟨?_⟩ | ((with_reducible refine SplS.mk (fun h => ?_) (fun h => ?_)) <;> first | exact a7 | (subst h; conv => whnf) | (conv => whnf)) | refine p3 ⟨?_⟩ ⟨?_⟩ | (refine Exists.intro ({k : Nat // PrtK l k}) (Exists.intro (fun ⟨k, hk⟩ => x5 Tryz.f41.ntmps [(3, .row 8), (9, .dat (.seq .ints l)), (10, .dat (.i l.length)), (11, .dat (.i k))] [(8, .row 9 .strs ((l.map s1).take k ++ List.replicate ((l.map s1).length - k) ByteArray.empty) false)]) (Exists.intro (fun ⟨k, hk⟩ => l.length - k) (Exists.intro ⟨0, ⟨Nat.zero_le _⟩⟩ (And.intro (SubP.sub (σ := [(8, some 8)]) ⟨⟨rfl, rfl, rfl⟩, ⟨rfl, j0 ?_, j0 ?_, j0 ?_, trivial⟩, ⟨⟨⟨rfl, rfl⟩, ?_⟩, trivial⟩⟩) (fun ⟨k, hk⟩ => ?_))))); rotate_right; conv => whnf) | (refine Exists.intro (⟨k + 1, ?_⟩ : {k : Nat // PrtK l k}) (And.intro ?_ (SubP.sub (σ := [(8, some 8)]) ⟨⟨rfl, rfl, rfl⟩, ⟨rfl, j0 ?_, j0 ?_, j0 ?_, trivial⟩, ⟨⟨⟨rfl, rfl⟩, ?_⟩, trivial⟩⟩))) | ((with_reducible first | refine s0 (g := 40) ?_ | show Exists _); refine ⟨_, wG (h0 := ?_) (h1 := ?_) .., rfl, ?_⟩; rotate_right; conv => whnf) | ((with_reducible first | refine s0 (g := 78) ?_ | show Exists _); refine ⟨_, v_Join (hl := ?_) (hs := ?_) .., rfl, ?_⟩; rotate_right; conv => whnf) | (intro h; conv => whnf))
  all_goals repeat clear hK K1
  all_goals first | (with_reducible assumption) | exact ⟨by omega⟩ | ((with_reducible show (_ : Nat) < _); (dsimp only; omega)) | exact congrArg (Dat.int .i64) (tA asmR asmR).symm | (exact tK (map_set (l := l) asmR).symm) | exact qcr hn asmR | exact qcs hn asmR | (rw [oW asmR] at h; exact qO hn _ h) | (have q := hk.h; rw [map_len q]; first | omega | (simp only [Int.toNat_natCast]; omega)) | (rw [oW asmR] at *; first | exact rfl | exact qO hn _ asmR) | (rw [List.length_map]; simp; done) | ((with_reducible show (_ : Int) ≤ _); first | omega | (show (l.length : Int) * 16 ≤ _; omega) | (have hm : maxLen = 9223372036854775807 := rfl; omega)) | rfl | (refine congrArg (Sigma.mk K.strs) ?_; rw [List.take_zero, List.nil_append, List.length_map, Int.toNat_natCast]; rfl) | skip
theorem ix_m {s : ByteArray} {k b : Nat} (hs : s.size ≤ 1048576) (hb : b ≤ 1) : (ixV s k).length + b ≤ maxLen := by
  have := iX s k
  have hm : maxLen = 9223372036854775807 := rfl
  omega
theorem ix_b {s : ByteArray} {k b : Nat} (hs : s.size ≤ 1048576) (hb : b ≤ 1) : ((ixV s k).length + b) * 8 ≤ 140737488355328 := by
  have := iX s k
  omega
theorem qd1 (s : ByteArray) (hs : s.size ≤ 1048576) : CallsV Tryz.prog 37 [.dat (.str s)] (.tup [.dat (.seq .ints (bD s).1), .dat (.bool (bD s).2)]) := by
  refine oV Tryz.func37 ⟨?_⟩
  repeat' (first | ((with_reducible refine fun (K1 : KT) hK => ?_); refine stR ⟨?_⟩) | ((with_reducible show K1 _ _); subst hK; conv => whnf) | (with_reducible exact rfl) | refine y5 ⟨?_⟩ | ((with_reducible refine SplS.mk (fun h => ?_) (fun h => ?_)) <;> first | exact a7 | (subst h; conv => whnf) | (conv => whnf)) | refine p3 ⟨?_⟩ ⟨?_⟩ | (refine Exists.intro ({k : Nat // IxI s k}) (Exists.intro (fun ⟨k, hk⟩ => x5 Tryz.f37.ntmps [(4, .row 5), (12, .row 13000), (13, .dat (.i (o4 32 s).length)), (14, .dat (.i k))] [(5, .row 3 .ints (ixV s k) false), (13000, .row 9 .strs (o4 32 s) false)]) (Exists.intro (fun ⟨k, hk⟩ => (o4 32 s).length - k) (Exists.intro ⟨0, ix_start s⟩ (And.intro (SubP.sub (σ := [(5, none), (13000, some 13000)]) ⟨⟨rfl, rfl, rfl⟩, ⟨rfl, rfl, j0 ?_, j0 ?_, trivial⟩, ⟨?_, ⟨⟨rfl, rfl⟩, ?_⟩, trivial⟩⟩) (fun ⟨k, hk⟩ => ?_))))); rotate_right; conv => whnf) | (refine Exists.intro (⟨k + 1, ?_⟩ : {k : Nat // IxI s k}) (And.intro ?_ (SubP.sub (σ := [(5, some 27), (13000, some 13000)]) ⟨⟨rfl, rfl, rfl⟩, ⟨rfl, rfl, j0 ?_, j0 ?_, trivial⟩, ⟨⟨⟨rfl, rfl⟩, ?_⟩, ⟨⟨rfl, rfl⟩, ?_⟩, trivial⟩⟩))) | (refine Exists.intro (⟨k + 1, ?_⟩ : {k : Nat // IxI s k}) (And.intro ?_ (SubP.sub (σ := [(5, some 28), (13000, some 13000)]) ⟨⟨rfl, rfl, rfl⟩, ⟨rfl, rfl, j0 ?_, j0 ?_, trivial⟩, ⟨⟨⟨rfl, rfl⟩, ?_⟩, ⟨⟨rfl, rfl⟩, ?_⟩, trivial⟩⟩))) | ((with_reducible refine aB (g := 35) ?_); refine ⟨_, _, rZ (hs := ?_) .., rfl, zV ?_⟩; rotate_right; conv => whnf) | ((with_reducible first | refine s0 (g := 36) ?_ | show Exists _); refine ⟨_, fJ (hs := ?_) .., rfl, ?_⟩; rotate_right; conv => whnf) | (intro h; conv => whnf))
  all_goals repeat clear hK K1
  all_goals first | (with_reducible assumption) | exact trivial | omega | (have e : (s.toList == (⟨#[]⟩ : ByteArray).toList) = true := asmR; obtain rfl : s = ⟨#[]⟩ := str_eq e; rw [ix_0]; exact rfl) | (have e : (s.toList == (⟨#[]⟩ : ByteArray).toList) = false := asmR; have e2 := str_ne e; first | (have e3 := ix_end e2 hk asmR; rw [e3]; exact rfl) | (have e3 := ix_no (k := k) e2 asmR asmR; rw [e3]; exact rfl)) | exact ix_m hs (Nat.le_refl 1) | exact ix_b hs (Nat.le_refl 1) | exact congrArg (Dat.int .i64) (tA asmR asmR).symm | ((with_reducible show ByteArray.size _ ≤ _); exact Nat.le_trans (iT (c := 32) (s := s) (k := k) omG) hs) | exact rfl | exact ix_step hk asmR asmR | ((with_reducible show (_ : Nat) < _); (dsimp only; omega)) | (exact tK (ix_push asmR)) | skip
theorem dY (op : Int) (h0 : 1 ≤ op) (h1 : op ≤ 14) : CallsV Tryz.prog 45 [.dat (.i op)] (.dat (.str (u7 op))) := by
  refine oV Tryz.func45 ⟨?_⟩
  repeat' (first | ((with_reducible refine fun (K1 : KT) hK => ?_); refine stR ⟨?_⟩) | ((with_reducible show K1 _ _); subst hK; conv => whnf) | (with_reducible exact rfl) | refine y5 ⟨?_⟩ | ((with_reducible refine SplS.mk (fun h => ?_) (fun h => ?_)) <;> first | exact a7 | (subst h; conv => whnf) | (conv => whnf)) | (intro h; conv => whnf))
  all_goals repeat clear hK K1
  all_goals first | (subst_vars; exact rfl) | (have e : op = 3 := omG; subst e; exact rfl) | skip
theorem i_varOf (x : Int) (h0 : -99999 ≤ x) (h1 : x ≤ 99999) : CallsV Tryz.prog 99 [.dat (.i x)] (.dat (.i (x.natAbs : Int))) := by
  refine oV Tryz.func99 ⟨?_⟩
  repeat' (first | ((with_reducible refine fun (K1 : KT) hK => ?_); refine stR ⟨?_⟩) | ((with_reducible show K1 _ _); subst hK; conv => whnf) | (with_reducible exact rfl) | refine y5 ⟨?_⟩ | ((with_reducible refine SplS.mk (fun h => ?_) (fun h => ?_)) <;> first | exact a7 | (subst h; conv => whnf) | (conv => whnf)) | (intro h; conv => whnf))
  all_goals repeat clear hK K1
  all_goals first | (refine congrArg (Dat.int .i64) ?_; first | omega | (rw [z1 omG omG]; omega)) | skip
end Vg
