/- Paths: contracts of the functions that paths lean on: numerals of inputs, lists that are copied, put, longer. Condition: lists are no longer than the laws let through. -/
import Derived.Test.YtahdmongckgjcaaGreatDoorTermI
import Derived.Test.YtahdmongckgjcaaGreatDoorRg
namespace Vg
open Go Go.Proofs
set_option maxRecDepth 100000
set_option maxHeartbeats 40000000
theorem nilRowF {P : Program} {f : FuncId} {args : List AV} {T : Nat} {κ : K} {l : List κ.T} {fr : Bool} (h : CallsF P f args fr fun res B => (res = .nils ∧ B = [] ∧ l.length = 0) ∨ (res = .row 0 ∧ B = [.row T κ l false])) :
    CallsF P f args fr fun res B => res = .row 0 ∧ B = [.row T κ l false] := by
  refine ⟨h.1, fun w Im vs h1 h2 h3 => ?_⟩
  refine (h.2 w Im vs h1 h2 h3).mono fun e w' he => ?_
  obtain ⟨v, res, B', ρ', Im', rfl, hR, hv, hE, hX⟩ := he
  rcases hR with ⟨rfl, rfl, hl⟩ | ⟨rfl, rfl⟩
  · obtain rfl := qd3 hv
    refine ⟨_, .row 0, [.row T κ l false], fun _ => none, Im', rfl, ⟨rfl, rfl⟩, .rowN 0 rfl, ⟨fun i b hi => ?_, fun i j r s x _ _ hr => (by cases hr), fun i r _ hr => (by cases hr), fun i r x _ hr => (by cases hr), fun i r x o _ hr => (by cases hr), hE.imlt, fun i b r o _ hr => (by cases hr)⟩,
      ⟨fun i r x _ hr => (by cases hr), hX.im0, hX.imNew, hX.keep, hX.frame, hX.grow, hX.os, hX.tape, hX.output, fun i p hp => (by cases hp)⟩⟩
    cases i with
    | zero => cases hi; exact hl
    | succ i => cases hi
  · exact ⟨_, _, _, ρ', Im', rfl, ⟨rfl, rfl⟩, hv, hE, hX⟩
def qj4 (k : Int) : ByteArray := ⟨#[(48 + k.toNat).toUInt8]⟩
def iName (k : Int) : ByteArray := ⟨#[105]⟩ ++ qj4 k
theorem v_small0  : CallsV Tryz.prog 146 [.dat (.i 0)] (.dat (.str (qj4 0))) := by
  refine CallsV.of_awp qaf qag Tryz.func146 rfl rfl rfl ?_
  conv => whnf
  repeat' (first | ((with_reducible refine fun (K1 : AX → AState → Prop) hK => ?_); (with_reducible refine qae ?_ ?_); exact rfl; conv => whnf) | ((with_reducible first | refine fun (K1 : AX → AState → Prop) hK => ?_ | (show K1 _ _; subst hK)); conv => whnf) | ((with_reducible refine qel ?_ ?_); decide; conv => whnf) | (refine ⟨(rfl : qac _ = true), rfl, ?_⟩; conv => whnf) | (with_reducible refine qdv ?_ ?_) | ((with_reducible refine qad ?_ ?_); conv => whnf))
  all_goals (repeat (clear hK; clear K1))
  all_goals first | rfl | decide | skip
theorem v_fmt0  : CallsV Tryz.prog 127 [.dat (.int .i64 0), .dat (.i 10)] (.dat (.str (qj4 0))) := by
  refine CallsV.of_awp qaf qag Tryz.func127 rfl rfl rfl ?_
  conv => whnf
  repeat' (first | ((with_reducible refine fun (K1 : AX → AState → Prop) hK => ?_); (with_reducible refine qae ?_ ?_); exact rfl; conv => whnf) | ((with_reducible first | refine fun (K1 : AX → AState → Prop) hK => ?_ | (show K1 _ _; subst hK) | refine sp_T ?_); conv => whnf) | ((with_reducible refine qel ?_ ?_); decide; conv => whnf) | ((with_reducible refine sp_eT ?_); conv => whnf) | (refine ⟨(rfl : qac _ = true), rfl, ?_⟩; conv => whnf) | ((with_reducible refine pcI (g := 146) ?_); refine ⟨_, v_small0 .., rfl, ?_⟩; rotate_right; conv => whnf))
  all_goals (repeat (clear hK; clear K1))
  all_goals first | rfl | decide | skip
theorem v_ito0  : CallsV Tryz.prog 110 [.dat (.i 0)] (.dat (.str (qj4 0))) := by
  refine CallsV.of_awp qaf qag Tryz.func110 rfl rfl rfl ?_
  conv => whnf
  repeat' (first | ((with_reducible refine fun (K1 : AX → AState → Prop) hK => ?_); (with_reducible refine qae ?_ ?_); exact rfl; conv => whnf) | ((with_reducible show K1 _ _); subst hK; conv => whnf) | (refine ⟨(rfl : qac _ = true), rfl, ?_⟩; conv => whnf) | ((with_reducible refine pcI (g := 127) ?_); refine ⟨_, v_fmt0 .., rfl, ?_⟩; rotate_right; conv => whnf))
  all_goals (repeat (clear hK; clear K1))
  all_goals first | rfl | decide | skip
theorem v_Ito0  : CallsV Tryz.prog 92 [.dat (.i 0)] (.dat (.str (qj4 0))) := by
  refine CallsV.of_awp qaf qag Tryz.func92 rfl rfl rfl ?_
  conv => whnf
  repeat' (first | ((with_reducible refine fun (K1 : AX → AState → Prop) hK => ?_); (with_reducible refine qae ?_ ?_); exact rfl; conv => whnf) | ((with_reducible show K1 _ _); subst hK; conv => whnf) | (refine ⟨(rfl : qac _ = true), rfl, ?_⟩; conv => whnf) | ((with_reducible refine pcI (g := 110) ?_); refine ⟨_, v_ito0 .., rfl, ?_⟩; rotate_right; conv => whnf))
  all_goals (repeat (clear hK; clear K1))
  all_goals first | rfl | decide | skip
theorem v_Fmt0  : CallsV Tryz.prog 65 [.dat (.i 0)] (.dat (.str (qj4 0))) := by
  refine CallsV.of_awp qaf qag Tryz.func65 rfl rfl rfl ?_
  conv => whnf
  repeat' (first | ((with_reducible refine fun (K1 : AX → AState → Prop) hK => ?_); (with_reducible refine qae ?_ ?_); exact rfl; conv => whnf) | ((with_reducible show K1 _ _); subst hK; conv => whnf) | (refine ⟨(rfl : qac _ = true), rfl, ?_⟩; conv => whnf) | ((with_reducible refine pcI (g := 92) ?_); refine ⟨_, v_Ito0 .., rfl, ?_⟩; rotate_right; conv => whnf))
  all_goals (repeat (clear hK; clear K1))
  all_goals first | rfl | decide | skip
theorem s_fmt0  : CallsV Tryz.prog 90 [.dat (.i 0)] (.dat (.str (qj4 0))) := by
  refine CallsV.of_awp qaf qag Tryz.func90 rfl rfl rfl ?_
  conv => whnf
  repeat' (first | ((with_reducible refine fun (K1 : AX → AState → Prop) hK => ?_); (with_reducible refine qae ?_ ?_); exact rfl; conv => whnf) | ((with_reducible first | refine fun (K1 : AX → AState → Prop) hK => ?_ | (show K1 _ _; subst hK)); conv => whnf) | (with_reducible exact rfl) | ((with_reducible refine qe4 ?_ ?_); decide; conv => whnf) | (refine ⟨(rfl : qac _ = true), rfl, ?_⟩; conv => whnf) | ((with_reducible refine qad ?_ ?_); conv => whnf) | (refine Exists.intro (Unit) (Exists.intro (fun _ => mkS Tryz.f90.ntmps [(0, .dat (.i 0)), (3, .dat (.str ByteArray.empty))] []) (Exists.intro (fun _ => 0) (Exists.intro () (And.intro (SubP.sub (σ := []) ⟨⟨rfl, rfl, rfl⟩, ⟨(qab ?_), (qab ?_), trivial⟩, trivial⟩) (fun _ => ?_))))); rotate_right; conv => whnf))
  all_goals (repeat (clear hK; clear K1))
  all_goals first | rfl | all_goals first | rfl | decide | skip
theorem v_small1  : CallsV Tryz.prog 146 [.dat (.i 1)] (.dat (.str (qj4 1))) := by
  refine CallsV.of_awp qaf qag Tryz.func146 rfl rfl rfl ?_
  conv => whnf
  repeat' (first | ((with_reducible refine fun (K1 : AX → AState → Prop) hK => ?_); (with_reducible refine qae ?_ ?_); exact rfl; conv => whnf) | ((with_reducible first | refine fun (K1 : AX → AState → Prop) hK => ?_ | (show K1 _ _; subst hK)); conv => whnf) | ((with_reducible refine qel ?_ ?_); decide; conv => whnf) | (refine ⟨(rfl : qac _ = true), rfl, ?_⟩; conv => whnf) | (with_reducible refine qdv ?_ ?_) | ((with_reducible refine qad ?_ ?_); conv => whnf))
  all_goals (repeat (clear hK; clear K1))
  all_goals first | rfl | decide | skip
theorem v_fmt1  : CallsV Tryz.prog 127 [.dat (.int .i64 1), .dat (.i 10)] (.dat (.str (qj4 1))) := by
  refine CallsV.of_awp qaf qag Tryz.func127 rfl rfl rfl ?_
  conv => whnf
  repeat' (first | ((with_reducible refine fun (K1 : AX → AState → Prop) hK => ?_); (with_reducible refine qae ?_ ?_); exact rfl; conv => whnf) | ((with_reducible first | refine fun (K1 : AX → AState → Prop) hK => ?_ | (show K1 _ _; subst hK) | refine sp_T ?_); conv => whnf) | ((with_reducible refine qel ?_ ?_); decide; conv => whnf) | ((with_reducible refine sp_eT ?_); conv => whnf) | (refine ⟨(rfl : qac _ = true), rfl, ?_⟩; conv => whnf) | ((with_reducible refine pcI (g := 146) ?_); refine ⟨_, v_small1 .., rfl, ?_⟩; rotate_right; conv => whnf))
  all_goals (repeat (clear hK; clear K1))
  all_goals first | rfl | decide | skip
theorem v_ito1  : CallsV Tryz.prog 110 [.dat (.i 1)] (.dat (.str (qj4 1))) := by
  refine CallsV.of_awp qaf qag Tryz.func110 rfl rfl rfl ?_
  conv => whnf
  repeat' (first | ((with_reducible refine fun (K1 : AX → AState → Prop) hK => ?_); (with_reducible refine qae ?_ ?_); exact rfl; conv => whnf) | ((with_reducible show K1 _ _); subst hK; conv => whnf) | (refine ⟨(rfl : qac _ = true), rfl, ?_⟩; conv => whnf) | ((with_reducible refine pcI (g := 127) ?_); refine ⟨_, v_fmt1 .., rfl, ?_⟩; rotate_right; conv => whnf))
  all_goals (repeat (clear hK; clear K1))
  all_goals first | rfl | decide | skip
theorem v_Ito1  : CallsV Tryz.prog 92 [.dat (.i 1)] (.dat (.str (qj4 1))) := by
  refine CallsV.of_awp qaf qag Tryz.func92 rfl rfl rfl ?_
  conv => whnf
  repeat' (first | ((with_reducible refine fun (K1 : AX → AState → Prop) hK => ?_); (with_reducible refine qae ?_ ?_); exact rfl; conv => whnf) | ((with_reducible show K1 _ _); subst hK; conv => whnf) | (refine ⟨(rfl : qac _ = true), rfl, ?_⟩; conv => whnf) | ((with_reducible refine pcI (g := 110) ?_); refine ⟨_, v_ito1 .., rfl, ?_⟩; rotate_right; conv => whnf))
  all_goals (repeat (clear hK; clear K1))
  all_goals first | rfl | decide | skip
theorem v_Fmt1  : CallsV Tryz.prog 65 [.dat (.i 1)] (.dat (.str (qj4 1))) := by
  refine CallsV.of_awp qaf qag Tryz.func65 rfl rfl rfl ?_
  conv => whnf
  repeat' (first | ((with_reducible refine fun (K1 : AX → AState → Prop) hK => ?_); (with_reducible refine qae ?_ ?_); exact rfl; conv => whnf) | ((with_reducible show K1 _ _); subst hK; conv => whnf) | (refine ⟨(rfl : qac _ = true), rfl, ?_⟩; conv => whnf) | ((with_reducible refine pcI (g := 92) ?_); refine ⟨_, v_Ito1 .., rfl, ?_⟩; rotate_right; conv => whnf))
  all_goals (repeat (clear hK; clear K1))
  all_goals first | rfl | decide | skip
theorem s_fmt1  : CallsV Tryz.prog 90 [.dat (.i 1)] (.dat (.str (qj4 1))) := by
  refine CallsV.of_awp qaf qag Tryz.func90 rfl rfl rfl ?_
  conv => whnf
  repeat' (first | ((with_reducible refine fun (K1 : AX → AState → Prop) hK => ?_); (with_reducible refine qae ?_ ?_); exact rfl; conv => whnf) | ((with_reducible first | refine fun (K1 : AX → AState → Prop) hK => ?_ | (show K1 _ _; subst hK)); conv => whnf) | (with_reducible exact rfl) | ((with_reducible refine qe4 ?_ ?_); decide; conv => whnf) | (refine ⟨(rfl : qac _ = true), rfl, ?_⟩; conv => whnf) | ((with_reducible refine qad ?_ ?_); conv => whnf) | (refine Exists.intro (Unit) (Exists.intro (fun _ => mkS Tryz.f90.ntmps [(0, .dat (.i 1)), (3, .dat (.str ByteArray.empty))] []) (Exists.intro (fun _ => 0) (Exists.intro () (And.intro (SubP.sub (σ := []) ⟨⟨rfl, rfl, rfl⟩, ⟨(qab ?_), (qab ?_), trivial⟩, trivial⟩) (fun _ => ?_))))); rotate_right; conv => whnf))
  all_goals (repeat (clear hK; clear K1))
  all_goals first | rfl | all_goals first | rfl | decide | skip
theorem v_small2  : CallsV Tryz.prog 146 [.dat (.i 2)] (.dat (.str (qj4 2))) := by
  refine CallsV.of_awp qaf qag Tryz.func146 rfl rfl rfl ?_
  conv => whnf
  repeat' (first | ((with_reducible refine fun (K1 : AX → AState → Prop) hK => ?_); (with_reducible refine qae ?_ ?_); exact rfl; conv => whnf) | ((with_reducible first | refine fun (K1 : AX → AState → Prop) hK => ?_ | (show K1 _ _; subst hK)); conv => whnf) | ((with_reducible refine qel ?_ ?_); decide; conv => whnf) | (refine ⟨(rfl : qac _ = true), rfl, ?_⟩; conv => whnf) | (with_reducible refine qdv ?_ ?_) | ((with_reducible refine qad ?_ ?_); conv => whnf))
  all_goals (repeat (clear hK; clear K1))
  all_goals first | rfl | decide | skip
theorem v_fmt2  : CallsV Tryz.prog 127 [.dat (.int .i64 2), .dat (.i 10)] (.dat (.str (qj4 2))) := by
  refine CallsV.of_awp qaf qag Tryz.func127 rfl rfl rfl ?_
  conv => whnf
  repeat' (first | ((with_reducible refine fun (K1 : AX → AState → Prop) hK => ?_); (with_reducible refine qae ?_ ?_); exact rfl; conv => whnf) | ((with_reducible first | refine fun (K1 : AX → AState → Prop) hK => ?_ | (show K1 _ _; subst hK) | refine sp_T ?_); conv => whnf) | ((with_reducible refine qel ?_ ?_); decide; conv => whnf) | ((with_reducible refine sp_eT ?_); conv => whnf) | (refine ⟨(rfl : qac _ = true), rfl, ?_⟩; conv => whnf) | ((with_reducible refine pcI (g := 146) ?_); refine ⟨_, v_small2 .., rfl, ?_⟩; rotate_right; conv => whnf))
  all_goals (repeat (clear hK; clear K1))
  all_goals first | rfl | decide | skip
theorem v_ito2  : CallsV Tryz.prog 110 [.dat (.i 2)] (.dat (.str (qj4 2))) := by
  refine CallsV.of_awp qaf qag Tryz.func110 rfl rfl rfl ?_
  conv => whnf
  repeat' (first | ((with_reducible refine fun (K1 : AX → AState → Prop) hK => ?_); (with_reducible refine qae ?_ ?_); exact rfl; conv => whnf) | ((with_reducible show K1 _ _); subst hK; conv => whnf) | (refine ⟨(rfl : qac _ = true), rfl, ?_⟩; conv => whnf) | ((with_reducible refine pcI (g := 127) ?_); refine ⟨_, v_fmt2 .., rfl, ?_⟩; rotate_right; conv => whnf))
  all_goals (repeat (clear hK; clear K1))
  all_goals first | rfl | decide | skip
theorem v_Ito2  : CallsV Tryz.prog 92 [.dat (.i 2)] (.dat (.str (qj4 2))) := by
  refine CallsV.of_awp qaf qag Tryz.func92 rfl rfl rfl ?_
  conv => whnf
  repeat' (first | ((with_reducible refine fun (K1 : AX → AState → Prop) hK => ?_); (with_reducible refine qae ?_ ?_); exact rfl; conv => whnf) | ((with_reducible show K1 _ _); subst hK; conv => whnf) | (refine ⟨(rfl : qac _ = true), rfl, ?_⟩; conv => whnf) | ((with_reducible refine pcI (g := 110) ?_); refine ⟨_, v_ito2 .., rfl, ?_⟩; rotate_right; conv => whnf))
  all_goals (repeat (clear hK; clear K1))
  all_goals first | rfl | decide | skip
theorem v_Fmt2  : CallsV Tryz.prog 65 [.dat (.i 2)] (.dat (.str (qj4 2))) := by
  refine CallsV.of_awp qaf qag Tryz.func65 rfl rfl rfl ?_
  conv => whnf
  repeat' (first | ((with_reducible refine fun (K1 : AX → AState → Prop) hK => ?_); (with_reducible refine qae ?_ ?_); exact rfl; conv => whnf) | ((with_reducible show K1 _ _); subst hK; conv => whnf) | (refine ⟨(rfl : qac _ = true), rfl, ?_⟩; conv => whnf) | ((with_reducible refine pcI (g := 92) ?_); refine ⟨_, v_Ito2 .., rfl, ?_⟩; rotate_right; conv => whnf))
  all_goals (repeat (clear hK; clear K1))
  all_goals first | rfl | decide | skip
theorem s_fmt2  : CallsV Tryz.prog 90 [.dat (.i 2)] (.dat (.str (qj4 2))) := by
  refine CallsV.of_awp qaf qag Tryz.func90 rfl rfl rfl ?_
  conv => whnf
  repeat' (first | ((with_reducible refine fun (K1 : AX → AState → Prop) hK => ?_); (with_reducible refine qae ?_ ?_); exact rfl; conv => whnf) | ((with_reducible first | refine fun (K1 : AX → AState → Prop) hK => ?_ | (show K1 _ _; subst hK)); conv => whnf) | (with_reducible exact rfl) | ((with_reducible refine qe4 ?_ ?_); decide; conv => whnf) | (refine ⟨(rfl : qac _ = true), rfl, ?_⟩; conv => whnf) | ((with_reducible refine qad ?_ ?_); conv => whnf) | (refine Exists.intro (Unit) (Exists.intro (fun _ => mkS Tryz.f90.ntmps [(0, .dat (.i 2)), (3, .dat (.str ByteArray.empty))] []) (Exists.intro (fun _ => 0) (Exists.intro () (And.intro (SubP.sub (σ := []) ⟨⟨rfl, rfl, rfl⟩, ⟨(qab ?_), (qab ?_), trivial⟩, trivial⟩) (fun _ => ?_))))); rotate_right; conv => whnf))
  all_goals (repeat (clear hK; clear K1))
  all_goals first | rfl | all_goals first | rfl | decide | skip
theorem i_FormatInt (n : Int) (h0 : 0 ≤ n) (h1 : n ≤ 2) : CallsV Tryz.prog 65 [.dat (.i n)] (.dat (.str (qj4 n))) := by
  have : n = 0 ∨ n = 1 ∨ n = 2 := by omega
  rcases this with rfl | rfl | rfl
  · exact v_Fmt0
  · exact v_Fmt1
  · exact v_Fmt2
theorem s_FormatInt (n : Int) (h0 : 0 ≤ n) (h1 : n ≤ 2) : CallsV Tryz.prog 90 [.dat (.i n)] (.dat (.str (qj4 n))) := by
  have : n = 0 ∨ n = 1 ∨ n = 2 := by omega
  rcases this with rfl | rfl | rfl
  · exact s_fmt0
  · exact s_fmt1
  · exact s_fmt2
theorem i_VarTerm (w : Int) (s : ByteArray) (hw : inP w 1 16 = true) (hs : isNameP s = true) : CallsV Tryz.prog 139 [.dat (.i w), .dat (.str s)] (.agg [.dat (.i 22), .dat (.i w), .dat (.i 0), .dat (.str s), .dat (.seq .terms [])]) := by
  refine CallsV.of_awp qaf qag Tryz.func139 rfl rfl rfl ?_
  conv => whnf
  repeat' (first | ((with_reducible refine fun (K1 : AX → AState → Prop) hK => ?_); (with_reducible refine qae ?_ ?_); exact rfl; conv => whnf) | ((with_reducible first | refine fun (K1 : AX → AState → Prop) hK => ?_ | (show K1 _ _; subst hK) | refine sp_F' ?_); conv => whnf) | ((with_reducible first | refine qbt (fun h => ?_) (fun h => ?_) | refine qcq (fun h => ?_) (fun h => ?_)) <;> first | (exact qa0 h (by with_reducible assumption)) | (exact qa0 (by with_reducible assumption) h) | (conv => whnf)) | (refine ⟨(rfl : qac _ = true), rfl, ?_⟩; conv => whnf) | ((with_reducible refine qad ?_ ?_); conv => whnf) | ((first | ((with_reducible refine pcI (g := 102) ?_); refine ⟨_, i_isWidth .., rfl, ?_⟩) | ((with_reducible refine pcI (g := 156) ?_); refine ⟨_, i_IsName .., rfl, ?_⟩)); rotate_right; conv => whnf))
  all_goals (repeat (clear hK; clear K1))
  all_goals first | exact rfl | exact True.intro | (exact absurd (hw.symm.trans (by with_reducible assumption)) (by decide)) | (exact absurd (hs.symm.trans (by with_reducible assumption)) (by decide)) | skip
theorem i_CloneT0 (l : List (K.T .terms)) (h1 : l.length ≤ 1048576) : CallsF Tryz.prog 145 [.dat (.seq .terms l)] false (fun res B => (res = .nils ∧ B = [] ∧ l.length = 0) ∨ (res = .row 0 ∧ B = [.row 109 .terms l false])) := by
  refine CallsF.of_awp qaf qag Tryz.func145 rfl rfl rfl ?_
  conv => whnf
  repeat' (first | ((with_reducible refine fun (K1 : AX → AState → Prop) hK => ?_); (with_reducible refine qae ?_ ?_); exact rfl; conv => whnf) | ((with_reducible first | refine Alt.l ?_ | refine fun (K1 : AX → AState → Prop) hK => ?_ | (show K1 _ _; subst hK)); conv => whnf) | ((with_reducible refine qdl (fun h => ?_) (fun h => ?_)) <;> first | (exact qa0 h (by with_reducible assumption)) | (exact qa0 (by with_reducible assumption) h) | (conv => whnf)) | (refine ⟨(rfl : qac _ = true), rfl, ?_⟩; conv => whnf) | (with_reducible refine qns ?_ ?_) | ((with_reducible refine qad ?_ ?_); conv => whnf) | (intro h; conv => whnf))
  all_goals (repeat (clear hK; clear K1))
  all_goals first | exact .inl ⟨rfl, rfl, by simp_all⟩ | exact .inl ⟨rfl, rfl, by assumption⟩ | exact .inr ⟨rfl, rfl⟩ | (have hm : maxLen = 9223372036854775807 := rfl; simp; omega) | (show (_ + l.length) * 64 ≤ _; simp; omega) | skip
theorem i_CloneT (l : List (K.T .terms)) (h1 : l.length ≤ 1048576) : CallsF Tryz.prog 145 [.dat (.seq .terms l)] false (fun res B => res = .row 0 ∧ B = [.row 109 .terms l false]) := nilRowF (i_CloneT0 l h1)
theorem i_CloneN0 (l : List (K.T .ints)) (h1 : l.length ≤ 1048576) : CallsF Tryz.prog 108 [.dat (.seq .ints l)] true (fun res B => (res = .nils ∧ B = [] ∧ l.length = 0) ∨ (res = .row 0 ∧ B = [.row 3 .ints l false])) := by
  refine CallsF.of_awp qaf qag Tryz.func108 rfl rfl rfl ?_
  conv => whnf
  repeat' (first | ((with_reducible refine fun (K1 : AX → AState → Prop) hK => ?_); (with_reducible refine qae ?_ ?_); exact rfl; conv => whnf) | ((with_reducible first | refine fun (K1 : AX → AState → Prop) hK => ?_ | (show K1 _ _; subst hK)); conv => whnf) | ((with_reducible refine qdl (fun h => ?_) (fun h => ?_)) <;> first | (exact qa0 h (by with_reducible assumption)) | (exact qa0 (by with_reducible assumption) h) | (conv => whnf)) | (refine ⟨(rfl : qac _ = true), rfl, ?_⟩; conv => whnf) | (with_reducible refine qns ?_ ?_) | ((with_reducible refine qad ?_ ?_); conv => whnf) | (intro h; conv => whnf))
  all_goals (repeat (clear hK; clear K1))
  all_goals first | exact .inl ⟨rfl, rfl, by simp_all⟩ | exact .inl ⟨rfl, rfl, by assumption⟩ | exact .inr ⟨rfl, rfl⟩ | (have hm : maxLen = 9223372036854775807 := rfl; simp; omega) | (show (_ + l.length) * 8 ≤ _; simp; omega) | skip
theorem i_CloneN (l : List (K.T .ints)) (h1 : l.length ≤ 1048576) : CallsF Tryz.prog 108 [.dat (.seq .ints l)] true (fun res B => res = .row 0 ∧ B = [.row 3 .ints l false]) := nilRowF (i_CloneN0 l h1)
theorem i_ClipT (l : List V.Term) : CallsG Tryz.prog 144 [.row 0] [.row 109 .terms l false] 0 (fun res B => res = .row 0 ∧ B = [.row 109 .terms l false]) := by
  refine CallsG.of_awp qaf qag Tryz.func144 rfl rfl rfl ?_
  conv => whnf
  repeat' (first | ((with_reducible refine fun (K1 : AX → AState → Prop) hK => ?_); (with_reducible refine qae ?_ ?_); exact rfl; conv => whnf) | ((with_reducible show K1 _ _); subst hK; conv => whnf) | (with_reducible exact rfl) | (with_reducible refine qdv ?_ ?_) | ((with_reducible refine qad ?_ ?_); conv => whnf) | (intro h; conv => whnf))
  all_goals (repeat (clear hK; clear K1))
  all_goals first | exact ⟨rfl, rfl⟩ | rfl | omega | (simp; done) | skip
theorem i_put (l : List V.Term) (k : Int) (to tw tn : Int) (tm : ByteArray) (tk : List V.Term) (h1 : l.length ≤ 1048576) (hk : 0 ≤ k ∧ k < l.length) : CallsV Tryz.prog 137 [.dat (.seq .terms l), .dat (.i k), .agg [.dat (.i to), .dat (.i tw), .dat (.i tn), .dat (.str tm), .dat (.seq .terms tk)]] (.dat (.seq .terms (l.set k.toNat ⟨to, tw, tn, tm, tk⟩))) := by
  refine CallsV.of_awp qaf qag Tryz.func137 rfl rfl rfl ?_
  conv => whnf
  repeat' (first | ((with_reducible refine fun (K1 : AX → AState → Prop) hK => ?_); (with_reducible refine qae ?_ ?_); exact rfl; conv => whnf) | ((with_reducible show K1 _ _); subst hK; conv => whnf) | (refine ⟨(rfl : qac _ = true), rfl, ?_⟩; conv => whnf) | (with_reducible refine qbn ?_ ?_) | ((with_reducible refine qad ?_ ?_); conv => whnf) | ((with_reducible refine fcI (g := 145) ?_); refine ⟨_, _, i_CloneT (h1 := ?_) .., rfl, fun res B hRB => ?_⟩; rotate_right; obtain ⟨rfl, rfl⟩ := hRB; conv => whnf))
  all_goals (repeat (clear hK; clear K1))
  all_goals first | (with_reducible assumption) | exact hk.1 | exact hk.2 | rfl | omega | skip
theorem i_more (l : List V.Term) (to tw tn : Int) (tm : ByteArray) (tk : List V.Term) (h1 : l.length ≤ 1048576) : CallsV Tryz.prog 126 [.dat (.seq .terms l), .agg [.dat (.i to), .dat (.i tw), .dat (.i tn), .dat (.str tm), .dat (.seq .terms tk)]] (.dat (.seq .terms (l ++ [⟨to, tw, tn, tm, tk⟩]))) := by
  refine CallsV.of_awp qaf qag Tryz.func126 rfl rfl rfl ?_
  conv => whnf
  repeat' (first | ((with_reducible refine fun (K1 : AX → AState → Prop) hK => ?_); (with_reducible refine qae ?_ ?_); exact rfl; conv => whnf) | ((with_reducible first | refine Alt.l ?_ | refine fun (K1 : AX → AState → Prop) hK => ?_ | (show K1 _ _; subst hK)); conv => whnf) | (with_reducible exact rfl) | (refine ⟨(rfl : qac _ = true), rfl, ?_⟩; conv => whnf) | (with_reducible refine qns ?_ ?_) | ((with_reducible refine qad ?_ ?_); conv => whnf) | ((first | ((with_reducible refine gcI (g := 144) ?_); refine ⟨_, _, i_ClipT .., fun res B hRB => ?_⟩) | ((with_reducible refine fcI (g := 145) ?_); refine ⟨_, _, i_CloneT (h1 := ?_) .., rfl, fun res B hRB => ?_⟩)); rotate_right; obtain ⟨rfl, rfl⟩ := hRB; conv => whnf) | ((with_reducible show qbo _ _ _ _ _ _); conv => whnf))
  all_goals (repeat (clear hK; clear K1))
  all_goals first | (with_reducible assumption) | rfl | omega | (show (l.length + 1) * 64 ≤ _; omega) | (show l.length + 1 ≤ 2 ^ 63 - 1; omega) | skip
theorem i_with (l : List Int) (n : Int) (h1 : l.length ≤ 1048576) : CallsV Tryz.prog 88 [.dat (.seq .ints l), .dat (.i n)] (.dat (.seq .ints (l ++ [n]))) := by
  refine CallsV.of_awp qaf qag Tryz.func88 rfl rfl rfl ?_
  conv => whnf
  repeat' (first | ((with_reducible refine fun (K1 : AX → AState → Prop) hK => ?_); (with_reducible refine qae ?_ ?_); exact rfl; conv => whnf) | ((with_reducible show K1 _ _); subst hK; conv => whnf) | (refine ⟨(rfl : qac _ = true), rfl, ?_⟩; conv => whnf) | (with_reducible refine qns ?_ ?_) | ((with_reducible refine qad ?_ ?_); conv => whnf) | ((with_reducible refine fcI (g := 108) ?_); refine ⟨_, _, i_CloneN (h1 := ?_) .., rfl, fun res B hRB => ?_⟩; rotate_right; obtain ⟨rfl, rfl⟩ := hRB; conv => whnf))
  all_goals (repeat (clear hK; clear K1))
  all_goals first | (with_reducible assumption) | rfl | omega | (show (l.length + 1) * 8 ≤ _; omega) | (show l.length + 1 ≤ 2 ^ 63 - 1; omega) | skip
end Vg
