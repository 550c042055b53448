/- Paths: contracts of the functions that paths lean on: numerals of inputs, lists that are copied, put, longer. Condition: lists are no longer than the laws let through. -/
import Derived.Test.YtjlffejifadkiaaGreatDoorTermI
import Derived.Test.YtjlffejifadkiaaGreatDoorRg
namespace Vg
open Go Go.Proofs
set_option maxRecDepth 100000
set_option maxHeartbeats 40000000
theorem mY {P : Program} {f : FuncId} {args : List AV} {T : Nat} {κ : K} {l : List κ.T} {fr : Bool} (h : CallsF P f args fr fun res B => (res = .nils ∧ B = [] ∧ l.length = 0) ∨ (res = .row 0 ∧ B = [.row T κ l false])) :
    CallsF P f args fr fun res B => res = .row 0 ∧ B = [.row T κ l false] := by
  refine ⟨h.1, fun w Im vs h1 h2 h3 => ?_⟩
  refine (h.2 w Im vs h1 h2 h3).mono fun e w' he => ?_
  obtain ⟨v, res, B', ρ', Im', rfl, hR, hv, hE, hX⟩ := he
  rcases hR with ⟨rfl, rfl, hl⟩ | ⟨rfl, rfl⟩
  · obtain rfl := cG hv
    refine ⟨_, .row 0, [.row T κ l false], fun _ => none, Im', rfl, ⟨rfl, rfl⟩, .rowN 0 rfl, ⟨fun i b hi => ?_, fun i j r s x _ _ hr => (by cases hr), fun i r _ hr => (by cases hr), fun i r x _ hr => (by cases hr), fun i r x o _ hr => (by cases hr), hE.imlt, fun i b r o _ hr => (by cases hr)⟩,
      ⟨fun i r x _ hr => (by cases hr), hX.im0, hX.imNew, hX.keep, hX.frame, hX.grow, hX.os, hX.tape, hX.output, fun i p hp => (by cases hp)⟩⟩
    cases i with
    | zero => cases hi; exact hl
    | succ i => cases hi
  · exact ⟨_, _, _, ρ', Im', rfl, ⟨rfl, rfl⟩, hv, hE, hX⟩
def s8 (k : Int) : ByteArray := ⟨#[(48 + k.toNat).toUInt8]⟩
def b5 (k : Int) : ByteArray := ⟨#[105]⟩ ++ s8 k
theorem qd7  : CallsV Tryz.prog 173 [.dat (.i 0)] (.dat (.str (s8 0))) := by
  refine oV Tryz.func173 ⟨?_⟩
  repeat' (first | ((with_reducible refine fun (K1 : KT) hK => ?_); refine l5 ⟨?_⟩) | ((with_reducible show K1 _ _); subst hK; conv => whnf) | (with_reducible exact rfl) | refine st0 ⟨?_⟩ | ((with_reducible refine SplS.mk (fun h => ?_) (fun h => ?_)) <;> first | exact r0 | (subst h; conv => whnf) | (conv => whnf)) | refine f1 ⟨?_⟩ ⟨?_⟩ | (intro h; conv => whnf))
  all_goals repeat clear hK K1
  all_goals first | rfl | decide | skip
theorem v_fmt0  : CallsV Tryz.prog 148 [.dat (.int .i64 0), .dat (.i 10)] (.dat (.str (s8 0))) := by
  refine oV Tryz.func148 ⟨?_⟩
  repeat' (first | ((with_reducible refine fun (K1 : KT) hK => ?_); refine l5 ⟨?_⟩) | ((with_reducible show K1 _ _); subst hK; conv => whnf) | (with_reducible exact rfl) | refine st0 ⟨?_⟩ | ((with_reducible refine SplS.mk (fun h => ?_) (fun h => ?_)) <;> first | exact r0 | (subst h; conv => whnf) | (conv => whnf)) | ((with_reducible first | refine n0 (g := 173) ?_ | show Exists _); refine ⟨_, qd7 .., rfl, ?_⟩; rotate_right; conv => whnf) | (intro h; conv => whnf))
  all_goals repeat clear hK K1
  all_goals first | rfl | decide | skip
theorem v_ito0  : CallsV Tryz.prog 126 [.dat (.i 0)] (.dat (.str (s8 0))) := by
  refine oV Tryz.func126 ⟨?_⟩
  repeat' (first | ((with_reducible refine fun (K1 : KT) hK => ?_); refine l5 ⟨?_⟩) | ((with_reducible show K1 _ _); subst hK; conv => whnf) | (with_reducible exact rfl) | refine st0 ⟨?_⟩ | ((with_reducible refine SplS.mk (fun h => ?_) (fun h => ?_)) <;> first | exact r0 | (subst h; conv => whnf) | (conv => whnf)) | ((with_reducible first | refine n0 (g := 148) ?_ | show Exists _); refine ⟨_, v_fmt0 .., rfl, ?_⟩; rotate_right; conv => whnf) | (intro h; conv => whnf))
  all_goals repeat clear hK K1
  all_goals first | rfl | decide | skip
theorem v_Ito0  : CallsV Tryz.prog 96 [.dat (.i 0)] (.dat (.str (s8 0))) := by
  refine oV Tryz.func96 ⟨?_⟩
  repeat' (first | ((with_reducible refine fun (K1 : KT) hK => ?_); refine l5 ⟨?_⟩) | ((with_reducible show K1 _ _); subst hK; conv => whnf) | (with_reducible exact rfl) | refine st0 ⟨?_⟩ | ((with_reducible refine SplS.mk (fun h => ?_) (fun h => ?_)) <;> first | exact r0 | (subst h; conv => whnf) | (conv => whnf)) | ((with_reducible first | refine n0 (g := 126) ?_ | show Exists _); refine ⟨_, v_ito0 .., rfl, ?_⟩; rotate_right; conv => whnf) | (intro h; conv => whnf))
  all_goals repeat clear hK K1
  all_goals first | rfl | decide | skip
theorem v_Fmt0  : CallsV Tryz.prog 55 [.dat (.i 0)] (.dat (.str (s8 0))) := by
  refine oV Tryz.func55 ⟨?_⟩
  repeat' (first | ((with_reducible refine fun (K1 : KT) hK => ?_); refine l5 ⟨?_⟩) | ((with_reducible show K1 _ _); subst hK; conv => whnf) | (with_reducible exact rfl) | refine st0 ⟨?_⟩ | ((with_reducible refine SplS.mk (fun h => ?_) (fun h => ?_)) <;> first | exact r0 | (subst h; conv => whnf) | (conv => whnf)) | ((with_reducible first | refine n0 (g := 96) ?_ | show Exists _); refine ⟨_, v_Ito0 .., rfl, ?_⟩; rotate_right; conv => whnf) | (intro h; conv => whnf))
  all_goals repeat clear hK K1
  all_goals first | rfl | decide | skip
theorem s_fmt0  : CallsV Tryz.prog 88 [.dat (.i 0)] (.dat (.str (s8 0))) := by
  refine oV Tryz.func88 ⟨?_⟩
  repeat' (first | ((with_reducible refine fun (K1 : KT) hK => ?_); refine l5 ⟨?_⟩) | ((with_reducible show K1 _ _); subst hK; conv => whnf) | (with_reducible exact rfl) | refine st0 ⟨?_⟩ | ((with_reducible refine SplS.mk (fun h => ?_) (fun h => ?_)) <;> first | exact r0 | (subst h; conv => whnf) | (conv => whnf)) | refine f1 ⟨?_⟩ ⟨?_⟩ | (refine Exists.intro (Unit) (Exists.intro (fun _ => r4 Tryz.f88.ntmps [(0, .dat (.i 0)), (3, .dat (.str ByteArray.empty))] []) (Exists.intro (fun _ => 0) (Exists.intro () (And.intro (SubP.sub (σ := []) ⟨⟨rfl, rfl, rfl⟩, ⟨o0 ?_, o0 ?_, trivial⟩, trivial⟩) (fun _ => ?_))))); rotate_right; conv => whnf) | (refine Exists.intro () (And.intro ?_ (SubP.sub (σ := []) ⟨⟨rfl, rfl, rfl⟩, ⟨o0 ?_, o0 ?_, trivial⟩, trivial⟩))) | (intro h; conv => whnf))
  all_goals repeat clear hK K1
  all_goals first | rfl | assumption | exact Bool.noConfusion (h.symm.trans hp) | omega | (dsimp only; omega) | all_goals first | rfl | decide | skip
theorem qd6  : CallsV Tryz.prog 173 [.dat (.i 1)] (.dat (.str (s8 1))) := by
  refine oV Tryz.func173 ⟨?_⟩
  repeat' (first | ((with_reducible refine fun (K1 : KT) hK => ?_); refine l5 ⟨?_⟩) | ((with_reducible show K1 _ _); subst hK; conv => whnf) | (with_reducible exact rfl) | refine st0 ⟨?_⟩ | ((with_reducible refine SplS.mk (fun h => ?_) (fun h => ?_)) <;> first | exact r0 | (subst h; conv => whnf) | (conv => whnf)) | refine f1 ⟨?_⟩ ⟨?_⟩ | (intro h; conv => whnf))
  all_goals repeat clear hK K1
  all_goals first | rfl | decide | skip
theorem v_fmt1  : CallsV Tryz.prog 148 [.dat (.int .i64 1), .dat (.i 10)] (.dat (.str (s8 1))) := by
  refine oV Tryz.func148 ⟨?_⟩
  repeat' (first | ((with_reducible refine fun (K1 : KT) hK => ?_); refine l5 ⟨?_⟩) | ((with_reducible show K1 _ _); subst hK; conv => whnf) | (with_reducible exact rfl) | refine st0 ⟨?_⟩ | ((with_reducible refine SplS.mk (fun h => ?_) (fun h => ?_)) <;> first | exact r0 | (subst h; conv => whnf) | (conv => whnf)) | ((with_reducible first | refine n0 (g := 173) ?_ | show Exists _); refine ⟨_, qd6 .., rfl, ?_⟩; rotate_right; conv => whnf) | (intro h; conv => whnf))
  all_goals repeat clear hK K1
  all_goals first | rfl | decide | skip
theorem v_ito1  : CallsV Tryz.prog 126 [.dat (.i 1)] (.dat (.str (s8 1))) := by
  refine oV Tryz.func126 ⟨?_⟩
  repeat' (first | ((with_reducible refine fun (K1 : KT) hK => ?_); refine l5 ⟨?_⟩) | ((with_reducible show K1 _ _); subst hK; conv => whnf) | (with_reducible exact rfl) | refine st0 ⟨?_⟩ | ((with_reducible refine SplS.mk (fun h => ?_) (fun h => ?_)) <;> first | exact r0 | (subst h; conv => whnf) | (conv => whnf)) | ((with_reducible first | refine n0 (g := 148) ?_ | show Exists _); refine ⟨_, v_fmt1 .., rfl, ?_⟩; rotate_right; conv => whnf) | (intro h; conv => whnf))
  all_goals repeat clear hK K1
  all_goals first | rfl | decide | skip
theorem v_Ito1  : CallsV Tryz.prog 96 [.dat (.i 1)] (.dat (.str (s8 1))) := by
  refine oV Tryz.func96 ⟨?_⟩
  repeat' (first | ((with_reducible refine fun (K1 : KT) hK => ?_); refine l5 ⟨?_⟩) | ((with_reducible show K1 _ _); subst hK; conv => whnf) | (with_reducible exact rfl) | refine st0 ⟨?_⟩ | ((with_reducible refine SplS.mk (fun h => ?_) (fun h => ?_)) <;> first | exact r0 | (subst h; conv => whnf) | (conv => whnf)) | ((with_reducible first | refine n0 (g := 126) ?_ | show Exists _); refine ⟨_, v_ito1 .., rfl, ?_⟩; rotate_right; conv => whnf) | (intro h; conv => whnf))
  all_goals repeat clear hK K1
  all_goals first | rfl | decide | skip
theorem v_Fmt1  : CallsV Tryz.prog 55 [.dat (.i 1)] (.dat (.str (s8 1))) := by
  refine oV Tryz.func55 ⟨?_⟩
  repeat' (first | ((with_reducible refine fun (K1 : KT) hK => ?_); refine l5 ⟨?_⟩) | ((with_reducible show K1 _ _); subst hK; conv => whnf) | (with_reducible exact rfl) | refine st0 ⟨?_⟩ | ((with_reducible refine SplS.mk (fun h => ?_) (fun h => ?_)) <;> first | exact r0 | (subst h; conv => whnf) | (conv => whnf)) | ((with_reducible first | refine n0 (g := 96) ?_ | show Exists _); refine ⟨_, v_Ito1 .., rfl, ?_⟩; rotate_right; conv => whnf) | (intro h; conv => whnf))
  all_goals repeat clear hK K1
  all_goals first | rfl | decide | skip
theorem s_fmt1  : CallsV Tryz.prog 88 [.dat (.i 1)] (.dat (.str (s8 1))) := by
  refine oV Tryz.func88 ⟨?_⟩
  repeat' (first | ((with_reducible refine fun (K1 : KT) hK => ?_); refine l5 ⟨?_⟩) | ((with_reducible show K1 _ _); subst hK; conv => whnf) | (with_reducible exact rfl) | refine st0 ⟨?_⟩ | ((with_reducible refine SplS.mk (fun h => ?_) (fun h => ?_)) <;> first | exact r0 | (subst h; conv => whnf) | (conv => whnf)) | refine f1 ⟨?_⟩ ⟨?_⟩ | (refine Exists.intro (Unit) (Exists.intro (fun _ => r4 Tryz.f88.ntmps [(0, .dat (.i 1)), (3, .dat (.str ByteArray.empty))] []) (Exists.intro (fun _ => 0) (Exists.intro () (And.intro (SubP.sub (σ := []) ⟨⟨rfl, rfl, rfl⟩, ⟨o0 ?_, o0 ?_, trivial⟩, trivial⟩) (fun _ => ?_))))); rotate_right; conv => whnf) | (refine Exists.intro () (And.intro ?_ (SubP.sub (σ := []) ⟨⟨rfl, rfl, rfl⟩, ⟨o0 ?_, o0 ?_, trivial⟩, trivial⟩))) | (intro h; conv => whnf))
  all_goals repeat clear hK K1
  all_goals first | rfl | assumption | exact Bool.noConfusion (h.symm.trans hp) | omega | (dsimp only; omega) | all_goals first | rfl | decide | skip
theorem qd5  : CallsV Tryz.prog 173 [.dat (.i 2)] (.dat (.str (s8 2))) := by
  refine oV Tryz.func173 ⟨?_⟩
  repeat' (first | ((with_reducible refine fun (K1 : KT) hK => ?_); refine l5 ⟨?_⟩) | ((with_reducible show K1 _ _); subst hK; conv => whnf) | (with_reducible exact rfl) | refine st0 ⟨?_⟩ | ((with_reducible refine SplS.mk (fun h => ?_) (fun h => ?_)) <;> first | exact r0 | (subst h; conv => whnf) | (conv => whnf)) | refine f1 ⟨?_⟩ ⟨?_⟩ | (intro h; conv => whnf))
  all_goals repeat clear hK K1
  all_goals first | rfl | decide | skip
theorem v_fmt2  : CallsV Tryz.prog 148 [.dat (.int .i64 2), .dat (.i 10)] (.dat (.str (s8 2))) := by
  refine oV Tryz.func148 ⟨?_⟩
  repeat' (first | ((with_reducible refine fun (K1 : KT) hK => ?_); refine l5 ⟨?_⟩) | ((with_reducible show K1 _ _); subst hK; conv => whnf) | (with_reducible exact rfl) | refine st0 ⟨?_⟩ | ((with_reducible refine SplS.mk (fun h => ?_) (fun h => ?_)) <;> first | exact r0 | (subst h; conv => whnf) | (conv => whnf)) | ((with_reducible first | refine n0 (g := 173) ?_ | show Exists _); refine ⟨_, qd5 .., rfl, ?_⟩; rotate_right; conv => whnf) | (intro h; conv => whnf))
  all_goals repeat clear hK K1
  all_goals first | rfl | decide | skip
theorem v_ito2  : CallsV Tryz.prog 126 [.dat (.i 2)] (.dat (.str (s8 2))) := by
  refine oV Tryz.func126 ⟨?_⟩
  repeat' (first | ((with_reducible refine fun (K1 : KT) hK => ?_); refine l5 ⟨?_⟩) | ((with_reducible show K1 _ _); subst hK; conv => whnf) | (with_reducible exact rfl) | refine st0 ⟨?_⟩ | ((with_reducible refine SplS.mk (fun h => ?_) (fun h => ?_)) <;> first | exact r0 | (subst h; conv => whnf) | (conv => whnf)) | ((with_reducible first | refine n0 (g := 148) ?_ | show Exists _); refine ⟨_, v_fmt2 .., rfl, ?_⟩; rotate_right; conv => whnf) | (intro h; conv => whnf))
  all_goals repeat clear hK K1
  all_goals first | rfl | decide | skip
theorem v_Ito2  : CallsV Tryz.prog 96 [.dat (.i 2)] (.dat (.str (s8 2))) := by
  refine oV Tryz.func96 ⟨?_⟩
  repeat' (first | ((with_reducible refine fun (K1 : KT) hK => ?_); refine l5 ⟨?_⟩) | ((with_reducible show K1 _ _); subst hK; conv => whnf) | (with_reducible exact rfl) | refine st0 ⟨?_⟩ | ((with_reducible refine SplS.mk (fun h => ?_) (fun h => ?_)) <;> first | exact r0 | (subst h; conv => whnf) | (conv => whnf)) | ((with_reducible first | refine n0 (g := 126) ?_ | show Exists _); refine ⟨_, v_ito2 .., rfl, ?_⟩; rotate_right; conv => whnf) | (intro h; conv => whnf))
  all_goals repeat clear hK K1
  all_goals first | rfl | decide | skip
theorem v_Fmt2  : CallsV Tryz.prog 55 [.dat (.i 2)] (.dat (.str (s8 2))) := by
  refine oV Tryz.func55 ⟨?_⟩
  repeat' (first | ((with_reducible refine fun (K1 : KT) hK => ?_); refine l5 ⟨?_⟩) | ((with_reducible show K1 _ _); subst hK; conv => whnf) | (with_reducible exact rfl) | refine st0 ⟨?_⟩ | ((with_reducible refine SplS.mk (fun h => ?_) (fun h => ?_)) <;> first | exact r0 | (subst h; conv => whnf) | (conv => whnf)) | ((with_reducible first | refine n0 (g := 96) ?_ | show Exists _); refine ⟨_, v_Ito2 .., rfl, ?_⟩; rotate_right; conv => whnf) | (intro h; conv => whnf))
  all_goals repeat clear hK K1
  all_goals first | rfl | decide | skip
theorem s_fmt2  : CallsV Tryz.prog 88 [.dat (.i 2)] (.dat (.str (s8 2))) := by
  refine oV Tryz.func88 ⟨?_⟩
  repeat' (first | ((with_reducible refine fun (K1 : KT) hK => ?_); refine l5 ⟨?_⟩) | ((with_reducible show K1 _ _); subst hK; conv => whnf) | (with_reducible exact rfl) | refine st0 ⟨?_⟩ | ((with_reducible refine SplS.mk (fun h => ?_) (fun h => ?_)) <;> first | exact r0 | (subst h; conv => whnf) | (conv => whnf)) | refine f1 ⟨?_⟩ ⟨?_⟩ | (refine Exists.intro (Unit) (Exists.intro (fun _ => r4 Tryz.f88.ntmps [(0, .dat (.i 2)), (3, .dat (.str ByteArray.empty))] []) (Exists.intro (fun _ => 0) (Exists.intro () (And.intro (SubP.sub (σ := []) ⟨⟨rfl, rfl, rfl⟩, ⟨o0 ?_, o0 ?_, trivial⟩, trivial⟩) (fun _ => ?_))))); rotate_right; conv => whnf) | (refine Exists.intro () (And.intro ?_ (SubP.sub (σ := []) ⟨⟨rfl, rfl, rfl⟩, ⟨o0 ?_, o0 ?_, trivial⟩, trivial⟩))) | (intro h; conv => whnf))
  all_goals repeat clear hK K1
  all_goals first | rfl | assumption | exact Bool.noConfusion (h.symm.trans hp) | omega | (dsimp only; omega) | all_goals first | rfl | decide | skip
theorem i_FormatInt (n : Int) (h0 : 0 ≤ n) (h1 : n ≤ 2) : CallsV Tryz.prog 55 [.dat (.i n)] (.dat (.str (s8 n))) := by
  have : n = 0 ∨ n = 1 ∨ n = 2 := by omega
  rcases this with rfl | rfl | rfl
  · exact v_Fmt0
  · exact v_Fmt1
  · exact v_Fmt2
theorem s_FormatInt (n : Int) (h0 : 0 ≤ n) (h1 : n ≤ 2) : CallsV Tryz.prog 88 [.dat (.i n)] (.dat (.str (s8 n))) := by
  have : n = 0 ∨ n = 1 ∨ n = 2 := by omega
  rcases this with rfl | rfl | rfl
  · exact s_fmt0
  · exact s_fmt1
  · exact s_fmt2
theorem qa7 (w : Int) (s : ByteArray) (hw : inP w 1 16 = true) (hs : isNameP s = true) : CallsV Tryz.prog 154 [.dat (.i w), .dat (.str s)] (.agg [.dat (.i 22), .dat (.i w), .dat (.i 0), .dat (.str s), .dat (.seq .terms [])]) := by
  refine oV Tryz.func154 ⟨?_⟩
  repeat' (first | ((with_reducible refine fun (K1 : KT) hK => ?_); refine l5 ⟨?_⟩) | ((with_reducible show K1 _ _); subst hK; conv => whnf) | (with_reducible exact rfl) | refine st0 ⟨?_⟩ | ((with_reducible refine SplS.mk (fun h => ?_) (fun h => ?_)) <;> first | exact r0 | (subst h; conv => whnf) | (conv => whnf)) | refine f1 ⟨?_⟩ ⟨?_⟩ | ((with_reducible first | refine n0 (g := 128) ?_ | show Exists _); refine ⟨_, xI .., rfl, ?_⟩; rotate_right; conv => whnf) | ((with_reducible first | refine n0 (g := 180) ?_ | show Exists _); refine ⟨_, qba .., rfl, ?_⟩; rotate_right; conv => whnf) | (intro h; conv => whnf))
  all_goals repeat clear hK K1
  all_goals first | exact rfl | exact True.intro | (exact absurd (hw.symm.trans asmR) (by decide)) | (exact absurd (hs.symm.trans asmR) (by decide)) | skip
theorem qhr (l : List (K.T .terms)) (h1 : l.length ≤ 1048576) : CallsF Tryz.prog 160 [.dat (.seq .terms l)] false (fun res B => (res = .nils ∧ B = [] ∧ l.length = 0) ∨ (res = .row 0 ∧ B = [.row 108 .terms l false])) := by
  refine oF Tryz.func160 ⟨?_⟩
  repeat' (first | ((with_reducible refine fun (K1 : KT) hK => ?_); refine l5 ⟨?_⟩) | ((with_reducible show K1 _ _); subst hK; conv => whnf) | (with_reducible exact rfl) | refine st0 ⟨?_⟩ | ((with_reducible refine SplS.mk (fun h => ?_) (fun h => ?_)) <;> first | exact r0 | (subst h; conv => whnf) | (conv => whnf)) | refine f1 ⟨?_⟩ ⟨?_⟩ | (intro h; conv => whnf))
  all_goals repeat clear hK K1
  all_goals first | exact .inl ⟨rfl, rfl, by simp_all⟩ | exact .inl ⟨rfl, rfl, by assumption⟩ | exact .inr ⟨rfl, rfl⟩ | (have hm : maxLen = 9223372036854775807 := rfl; simp; omega) | (show (_ + l.length) * 64 ≤ _; simp; omega) | skip
theorem qbd (l : List (K.T .terms)) (h1 : l.length ≤ 1048576) : CallsF Tryz.prog 160 [.dat (.seq .terms l)] false (fun res B => res = .row 0 ∧ B = [.row 108 .terms l false]) := mY (qhr l h1)
theorem qhs (l : List (K.T .ints)) (h1 : l.length ≤ 1048576) : CallsF Tryz.prog 35 [.dat (.seq .ints l)] true (fun res B => (res = .nils ∧ B = [] ∧ l.length = 0) ∨ (res = .row 0 ∧ B = [.row 3 .ints l false])) := by
  refine oF Tryz.func35 ⟨?_⟩
  repeat' (first | ((with_reducible refine fun (K1 : KT) hK => ?_); refine l5 ⟨?_⟩) | ((with_reducible show K1 _ _); subst hK; conv => whnf) | (with_reducible exact rfl) | refine st0 ⟨?_⟩ | ((with_reducible refine SplS.mk (fun h => ?_) (fun h => ?_)) <;> first | exact r0 | (subst h; conv => whnf) | (conv => whnf)) | refine f1 ⟨?_⟩ ⟨?_⟩ | (intro h; conv => whnf))
  all_goals repeat clear hK K1
  all_goals first | exact .inl ⟨rfl, rfl, by simp_all⟩ | exact .inl ⟨rfl, rfl, by assumption⟩ | exact .inr ⟨rfl, rfl⟩ | (have hm : maxLen = 9223372036854775807 := rfl; simp; omega) | (show (_ + l.length) * 8 ≤ _; simp; omega) | skip
theorem oK (l : List (K.T .ints)) (h1 : l.length ≤ 1048576) : CallsF Tryz.prog 35 [.dat (.seq .ints l)] true (fun res B => res = .row 0 ∧ B = [.row 3 .ints l false]) := mY (qhs l h1)
theorem i_ClipT (l : List V.Term) : CallsG Tryz.prog 159 [.row 0] [.row 108 .terms l false] 0 (fun res B => res = .row 0 ∧ B = [.row 108 .terms l false]) := by
  refine oG Tryz.func159 ⟨?_⟩
  repeat' (first | ((with_reducible refine fun (K1 : KT) hK => ?_); refine l5 ⟨?_⟩) | ((with_reducible show K1 _ _); subst hK; conv => whnf) | (with_reducible exact rfl) | ((with_reducible refine SplS.mk (fun h => ?_) (fun h => ?_)) <;> first | exact r0 | (subst h; conv => whnf) | (conv => whnf)) | refine f1 ⟨?_⟩ ⟨?_⟩ | (intro h; conv => whnf))
  all_goals repeat clear hK K1
  all_goals first | exact ⟨rfl, rfl⟩ | rfl | omega | (simp; done) | skip
theorem mS (l : List V.Term) (k : Int) (to tw tn : Int) (tm : ByteArray) (tk : List V.Term) (h1 : l.length ≤ 1048576) (hk : 0 ≤ k ∧ k < l.length) : CallsV Tryz.prog 152 [.dat (.seq .terms l), .dat (.i k), .agg [.dat (.i to), .dat (.i tw), .dat (.i tn), .dat (.str tm), .dat (.seq .terms tk)]] (.dat (.seq .terms (l.set k.toNat ⟨to, tw, tn, tm, tk⟩))) := by
  refine oV Tryz.func152 ⟨?_⟩
  repeat' (first | ((with_reducible refine fun (K1 : KT) hK => ?_); refine l5 ⟨?_⟩) | ((with_reducible show K1 _ _); subst hK; conv => whnf) | (with_reducible exact rfl) | refine st0 ⟨?_⟩ | ((with_reducible refine SplS.mk (fun h => ?_) (fun h => ?_)) <;> first | exact r0 | (subst h; conv => whnf) | (conv => whnf)) | refine f1 ⟨?_⟩ ⟨?_⟩ | ((with_reducible refine o8 (g := 160) ?_); refine ⟨_, _, qbd (h1 := ?_) .., rfl, zV ?_⟩; rotate_right; conv => whnf) | (intro h; conv => whnf))
  all_goals repeat clear hK K1
  all_goals first | (with_reducible assumption) | exact hk.1 | exact hk.2 | rfl | omega | skip
theorem tN (l : List V.Term) (to tw tn : Int) (tm : ByteArray) (tk : List V.Term) (h1 : l.length ≤ 1048576) : CallsV Tryz.prog 137 [.dat (.seq .terms l), .agg [.dat (.i to), .dat (.i tw), .dat (.i tn), .dat (.str tm), .dat (.seq .terms tk)]] (.dat (.seq .terms (l ++ [⟨to, tw, tn, tm, tk⟩]))) := by
  refine oV Tryz.func137 ⟨?_⟩
  repeat' (first | ((with_reducible refine fun (K1 : KT) hK => ?_); refine l5 ⟨?_⟩) | ((with_reducible show K1 _ _); subst hK; conv => whnf) | (with_reducible exact rfl) | refine st0 ⟨?_⟩ | ((with_reducible refine SplS.mk (fun h => ?_) (fun h => ?_)) <;> first | exact r0 | (subst h; conv => whnf) | (conv => whnf)) | refine f1 ⟨?_⟩ ⟨?_⟩ | ((with_reducible refine a6 (g := 159) ?_); refine ⟨_, _, i_ClipT .., zV ?_⟩; rotate_right; conv => whnf) | ((with_reducible refine o8 (g := 160) ?_); refine ⟨_, _, qbd (h1 := ?_) .., rfl, zV ?_⟩; rotate_right; conv => whnf) | (intro h; conv => whnf))
  all_goals repeat clear hK K1
  all_goals first | (with_reducible assumption) | rfl | omega | (show (l.length + 1) * 64 ≤ _; omega) | (show l.length + 1 ≤ 2 ^ 63 - 1; omega) | skip
theorem sN (l : List Int) (n : Int) (h1 : l.length ≤ 1048576) : CallsV Tryz.prog 124 [.dat (.seq .ints l), .dat (.i n)] (.dat (.seq .ints (l ++ [n]))) := by
  refine oV Tryz.func124 ⟨?_⟩
  repeat' (first | ((with_reducible refine fun (K1 : KT) hK => ?_); refine l5 ⟨?_⟩) | ((with_reducible show K1 _ _); subst hK; conv => whnf) | (with_reducible exact rfl) | refine st0 ⟨?_⟩ | ((with_reducible refine SplS.mk (fun h => ?_) (fun h => ?_)) <;> first | exact r0 | (subst h; conv => whnf) | (conv => whnf)) | refine f1 ⟨?_⟩ ⟨?_⟩ | ((with_reducible refine o8 (g := 35) ?_); refine ⟨_, _, oK (h1 := ?_) .., rfl, zV ?_⟩; rotate_right; conv => whnf) | (intro h; conv => whnf))
  all_goals repeat clear hK K1
  all_goals first | (with_reducible assumption) | rfl | omega | (show (l.length + 1) * 8 ≤ _; omega) | (show l.length + 1 ≤ 2 ^ 63 - 1; omega) | skip
end Vg
