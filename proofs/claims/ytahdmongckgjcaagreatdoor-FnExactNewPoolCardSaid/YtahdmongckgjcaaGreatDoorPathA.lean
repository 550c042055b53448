/- Paths: contracts of the functions that paths lean on: numerals of inputs, lists that are copied, put, longer. Condition: lists are no longer than the laws let through. -/
import Derived.Test.YtahdmongckgjcaaGreatDoorTermI
import Derived.Test.YtahdmongckgjcaaGreatDoorRg
import Derived.Test.YtahdmongckgjcaaGreatDoorDrw
namespace Vg
open Go Go.Proofs

theorem nilRowF {P : Program} {f : FuncId} {args : List AV} {T : Nat} {κ : K} {l : List κ.T} {fr : Bool} (h : CallsF P f args fr fun res B => (res = .nils ∧ B = [] ∧ l.length = 0) ∨ (res = .row 0 ∧ B = [.row T κ l false])) :
    CallsF P f args fr fun res B => res = .row 0 ∧ B = [.row T κ l false] := by
  refine ⟨h.1, fun w Im vs h1 h2 h3 => ?_⟩
  refine (h.2 w Im vs h1 h2 h3).mono fun e w' he => ?_
  obtain ⟨v, res, B', ρ', Im', rfl, hR, hv, hE, hX⟩ := he
  rcases hR with ⟨rfl, rfl, hl⟩ | ⟨rfl, rfl⟩
  · obtain rfl := nils_val hv
    refine ⟨_, .row 0, [.row T κ l false], fun _ => none, Im', rfl, ⟨rfl, rfl⟩, .rowN 0 rfl, ⟨fun i b hi => ?_, fun i j r s x _ _ hr => (by cases hr), fun i r _ hr => (by cases hr), fun i r x _ hr => (by cases hr), fun i r x o _ hr => (by cases hr), hE.imlt, fun i b r o _ hr => (by cases hr)⟩,
      ⟨fun i r x _ hr => (by cases hr), hX.im0, hX.imNew, hX.keep, hX.frame, hX.grow, hX.os, hX.tape, hX.output, fun i p hp => (by cases hp)⟩⟩
    cases i with
    | zero => cases hi; exact hl
    | succ i => cases hi
  · exact ⟨_, _, _, ρ', Im', rfl, ⟨rfl, rfl⟩, hv, hE, hX⟩
def numS (k : Int) : ByteArray := ⟨#[(48 + k.toNat).toUInt8]⟩
/-- the name of an input -/
def iName (k : Int) : ByteArray := ⟨#[105]⟩ ++ numS k
set_option maxRecDepth 100000 in
theorem v_small0  : CallsV Tryz.prog 146 [.dat (.i 0)] (.dat (.str (numS 0))) := by
  refine CallsV.of_awp tauOk mixOk Tryz.func146 rfl rfl rfl ?_
  conv => whnf
  repeat' (first
    | ((with_reducible refine fun (K1 : AX → AState → Prop) hK => ?_); (with_reducible refine awp_rg ?_ ?_); exact rfl; conv => whnf)
    | ((with_reducible refine fun (K1 : AX → AState → Prop) hK => ?_); conv => whnf)
    | ((with_reducible show K1 _ _); subst hK; conv => whnf)
    | (with_reducible exact rfl)
    | ((with_reducible refine sp_dT ?_ ?_); decide; conv => whnf)
    | (refine ⟨(rfl : nodupB _ = true), rfl, ?_⟩; conv => whnf)
    | (with_reducible refine bnd2' ?_ ?_)
    | ((with_reducible refine and_of ?_ ?_); conv => whnf)
    | ((with_reducible show awpOps _ _ _ _ _ _); conv => whnf)
    | (intro h; conv => whnf))
  all_goals (repeat (clear hK; clear K1))
  all_goals first | rfl | decide | skip
set_option maxRecDepth 100000 in
theorem v_fmt0  : CallsV Tryz.prog 127 [.dat (.int .i64 0), .dat (.i 10)] (.dat (.str (numS 0))) := by
  refine CallsV.of_awp tauOk mixOk Tryz.func127 rfl rfl rfl ?_
  conv => whnf
  repeat' (first
    | ((with_reducible refine fun (K1 : AX → AState → Prop) hK => ?_); (with_reducible refine awp_rg ?_ ?_); exact rfl; conv => whnf)
    | ((with_reducible refine fun (K1 : AX → AState → Prop) hK => ?_); conv => whnf)
    | ((with_reducible show K1 _ _); subst hK; conv => whnf)
    | (with_reducible exact rfl)
    | ((with_reducible refine sp_T ?_); conv => whnf)
    | ((with_reducible refine sp_dT ?_ ?_); decide; conv => whnf)
    | ((with_reducible refine sp_eT ?_); conv => whnf)
    | (refine ⟨(rfl : nodupB _ = true), rfl, ?_⟩; conv => whnf)
    | ((with_reducible refine pcI (g := 146) ?_); refine ⟨_, v_small0 .., rfl, ?_⟩; rotate_right; conv => whnf)
    | ((with_reducible show Exists _); refine Exists.intro _ (And.intro (v_small0 ..) (And.intro rfl ?_)); rotate_right; conv => whnf)
    | ((with_reducible show awpOps _ _ _ _ _ _); conv => whnf)
    | (intro h; conv => whnf))
  all_goals (repeat (clear hK; clear K1))
  all_goals first | rfl | decide | skip
set_option maxRecDepth 100000 in
theorem v_ito0  : CallsV Tryz.prog 110 [.dat (.i 0)] (.dat (.str (numS 0))) := by
  refine CallsV.of_awp tauOk mixOk Tryz.func110 rfl rfl rfl ?_
  conv => whnf
  repeat' (first
    | ((with_reducible refine fun (K1 : AX → AState → Prop) hK => ?_); (with_reducible refine awp_rg ?_ ?_); exact rfl; conv => whnf)
    | ((with_reducible refine fun (K1 : AX → AState → Prop) hK => ?_); conv => whnf)
    | ((with_reducible show K1 _ _); subst hK; conv => whnf)
    | (with_reducible exact rfl)
    | (refine ⟨(rfl : nodupB _ = true), rfl, ?_⟩; conv => whnf)
    | ((with_reducible refine pcI (g := 127) ?_); refine ⟨_, v_fmt0 .., rfl, ?_⟩; rotate_right; conv => whnf)
    | ((with_reducible show Exists _); refine Exists.intro _ (And.intro (v_fmt0 ..) (And.intro rfl ?_)); rotate_right; conv => whnf)
    | ((with_reducible show awpOps _ _ _ _ _ _); conv => whnf)
    | (intro h; conv => whnf))
  all_goals (repeat (clear hK; clear K1))
  all_goals first | rfl | decide | skip
set_option maxRecDepth 100000 in
theorem v_Ito0  : CallsV Tryz.prog 92 [.dat (.i 0)] (.dat (.str (numS 0))) := by
  refine CallsV.of_awp tauOk mixOk Tryz.func92 rfl rfl rfl ?_
  conv => whnf
  repeat' (first
    | ((with_reducible refine fun (K1 : AX → AState → Prop) hK => ?_); (with_reducible refine awp_rg ?_ ?_); exact rfl; conv => whnf)
    | ((with_reducible refine fun (K1 : AX → AState → Prop) hK => ?_); conv => whnf)
    | ((with_reducible show K1 _ _); subst hK; conv => whnf)
    | (with_reducible exact rfl)
    | (refine ⟨(rfl : nodupB _ = true), rfl, ?_⟩; conv => whnf)
    | ((with_reducible refine pcI (g := 110) ?_); refine ⟨_, v_ito0 .., rfl, ?_⟩; rotate_right; conv => whnf)
    | ((with_reducible show Exists _); refine Exists.intro _ (And.intro (v_ito0 ..) (And.intro rfl ?_)); rotate_right; conv => whnf)
    | ((with_reducible show awpOps _ _ _ _ _ _); conv => whnf)
    | (intro h; conv => whnf))
  all_goals (repeat (clear hK; clear K1))
  all_goals first | rfl | decide | skip
set_option maxRecDepth 100000 in
theorem v_Fmt0  : CallsV Tryz.prog 65 [.dat (.i 0)] (.dat (.str (numS 0))) := by
  refine CallsV.of_awp tauOk mixOk Tryz.func65 rfl rfl rfl ?_
  conv => whnf
  repeat' (first
    | ((with_reducible refine fun (K1 : AX → AState → Prop) hK => ?_); (with_reducible refine awp_rg ?_ ?_); exact rfl; conv => whnf)
    | ((with_reducible refine fun (K1 : AX → AState → Prop) hK => ?_); conv => whnf)
    | ((with_reducible show K1 _ _); subst hK; conv => whnf)
    | (with_reducible exact rfl)
    | (refine ⟨(rfl : nodupB _ = true), rfl, ?_⟩; conv => whnf)
    | ((with_reducible refine pcI (g := 92) ?_); refine ⟨_, v_Ito0 .., rfl, ?_⟩; rotate_right; conv => whnf)
    | ((with_reducible show Exists _); refine Exists.intro _ (And.intro (v_Ito0 ..) (And.intro rfl ?_)); rotate_right; conv => whnf)
    | ((with_reducible show awpOps _ _ _ _ _ _); conv => whnf)
    | (intro h; conv => whnf))
  all_goals (repeat (clear hK; clear K1))
  all_goals first | rfl | decide | skip
set_option maxRecDepth 100000 in
theorem v_small1  : CallsV Tryz.prog 146 [.dat (.i 1)] (.dat (.str (numS 1))) := by
  refine CallsV.of_awp tauOk mixOk Tryz.func146 rfl rfl rfl ?_
  conv => whnf
  repeat' (first
    | ((with_reducible refine fun (K1 : AX → AState → Prop) hK => ?_); (with_reducible refine awp_rg ?_ ?_); exact rfl; conv => whnf)
    | ((with_reducible refine fun (K1 : AX → AState → Prop) hK => ?_); conv => whnf)
    | ((with_reducible show K1 _ _); subst hK; conv => whnf)
    | (with_reducible exact rfl)
    | ((with_reducible refine sp_dT ?_ ?_); decide; conv => whnf)
    | (refine ⟨(rfl : nodupB _ = true), rfl, ?_⟩; conv => whnf)
    | (with_reducible refine bnd2' ?_ ?_)
    | ((with_reducible refine and_of ?_ ?_); conv => whnf)
    | ((with_reducible show awpOps _ _ _ _ _ _); conv => whnf)
    | (intro h; conv => whnf))
  all_goals (repeat (clear hK; clear K1))
  all_goals first | rfl | decide | skip
set_option maxRecDepth 100000 in
theorem v_fmt1  : CallsV Tryz.prog 127 [.dat (.int .i64 1), .dat (.i 10)] (.dat (.str (numS 1))) := by
  refine CallsV.of_awp tauOk mixOk Tryz.func127 rfl rfl rfl ?_
  conv => whnf
  repeat' (first
    | ((with_reducible refine fun (K1 : AX → AState → Prop) hK => ?_); (with_reducible refine awp_rg ?_ ?_); exact rfl; conv => whnf)
    | ((with_reducible refine fun (K1 : AX → AState → Prop) hK => ?_); conv => whnf)
    | ((with_reducible show K1 _ _); subst hK; conv => whnf)
    | (with_reducible exact rfl)
    | ((with_reducible refine sp_T ?_); conv => whnf)
    | ((with_reducible refine sp_dT ?_ ?_); decide; conv => whnf)
    | ((with_reducible refine sp_eT ?_); conv => whnf)
    | (refine ⟨(rfl : nodupB _ = true), rfl, ?_⟩; conv => whnf)
    | ((with_reducible refine pcI (g := 146) ?_); refine ⟨_, v_small1 .., rfl, ?_⟩; rotate_right; conv => whnf)
    | ((with_reducible show Exists _); refine Exists.intro _ (And.intro (v_small1 ..) (And.intro rfl ?_)); rotate_right; conv => whnf)
    | ((with_reducible show awpOps _ _ _ _ _ _); conv => whnf)
    | (intro h; conv => whnf))
  all_goals (repeat (clear hK; clear K1))
  all_goals first | rfl | decide | skip
set_option maxRecDepth 100000 in
theorem v_ito1  : CallsV Tryz.prog 110 [.dat (.i 1)] (.dat (.str (numS 1))) := by
  refine CallsV.of_awp tauOk mixOk Tryz.func110 rfl rfl rfl ?_
  conv => whnf
  repeat' (first
    | ((with_reducible refine fun (K1 : AX → AState → Prop) hK => ?_); (with_reducible refine awp_rg ?_ ?_); exact rfl; conv => whnf)
    | ((with_reducible refine fun (K1 : AX → AState → Prop) hK => ?_); conv => whnf)
    | ((with_reducible show K1 _ _); subst hK; conv => whnf)
    | (with_reducible exact rfl)
    | (refine ⟨(rfl : nodupB _ = true), rfl, ?_⟩; conv => whnf)
    | ((with_reducible refine pcI (g := 127) ?_); refine ⟨_, v_fmt1 .., rfl, ?_⟩; rotate_right; conv => whnf)
    | ((with_reducible show Exists _); refine Exists.intro _ (And.intro (v_fmt1 ..) (And.intro rfl ?_)); rotate_right; conv => whnf)
    | ((with_reducible show awpOps _ _ _ _ _ _); conv => whnf)
    | (intro h; conv => whnf))
  all_goals (repeat (clear hK; clear K1))
  all_goals first | rfl | decide | skip
set_option maxRecDepth 100000 in
theorem v_Ito1  : CallsV Tryz.prog 92 [.dat (.i 1)] (.dat (.str (numS 1))) := by
  refine CallsV.of_awp tauOk mixOk Tryz.func92 rfl rfl rfl ?_
  conv => whnf
  repeat' (first
    | ((with_reducible refine fun (K1 : AX → AState → Prop) hK => ?_); (with_reducible refine awp_rg ?_ ?_); exact rfl; conv => whnf)
    | ((with_reducible refine fun (K1 : AX → AState → Prop) hK => ?_); conv => whnf)
    | ((with_reducible show K1 _ _); subst hK; conv => whnf)
    | (with_reducible exact rfl)
    | (refine ⟨(rfl : nodupB _ = true), rfl, ?_⟩; conv => whnf)
    | ((with_reducible refine pcI (g := 110) ?_); refine ⟨_, v_ito1 .., rfl, ?_⟩; rotate_right; conv => whnf)
    | ((with_reducible show Exists _); refine Exists.intro _ (And.intro (v_ito1 ..) (And.intro rfl ?_)); rotate_right; conv => whnf)
    | ((with_reducible show awpOps _ _ _ _ _ _); conv => whnf)
    | (intro h; conv => whnf))
  all_goals (repeat (clear hK; clear K1))
  all_goals first | rfl | decide | skip
set_option maxRecDepth 100000 in
theorem v_Fmt1  : CallsV Tryz.prog 65 [.dat (.i 1)] (.dat (.str (numS 1))) := by
  refine CallsV.of_awp tauOk mixOk Tryz.func65 rfl rfl rfl ?_
  conv => whnf
  repeat' (first
    | ((with_reducible refine fun (K1 : AX → AState → Prop) hK => ?_); (with_reducible refine awp_rg ?_ ?_); exact rfl; conv => whnf)
    | ((with_reducible refine fun (K1 : AX → AState → Prop) hK => ?_); conv => whnf)
    | ((with_reducible show K1 _ _); subst hK; conv => whnf)
    | (with_reducible exact rfl)
    | (refine ⟨(rfl : nodupB _ = true), rfl, ?_⟩; conv => whnf)
    | ((with_reducible refine pcI (g := 92) ?_); refine ⟨_, v_Ito1 .., rfl, ?_⟩; rotate_right; conv => whnf)
    | ((with_reducible show Exists _); refine Exists.intro _ (And.intro (v_Ito1 ..) (And.intro rfl ?_)); rotate_right; conv => whnf)
    | ((with_reducible show awpOps _ _ _ _ _ _); conv => whnf)
    | (intro h; conv => whnf))
  all_goals (repeat (clear hK; clear K1))
  all_goals first | rfl | decide | skip
set_option maxRecDepth 100000 in
theorem v_small2  : CallsV Tryz.prog 146 [.dat (.i 2)] (.dat (.str (numS 2))) := by
  refine CallsV.of_awp tauOk mixOk Tryz.func146 rfl rfl rfl ?_
  conv => whnf
  repeat' (first
    | ((with_reducible refine fun (K1 : AX → AState → Prop) hK => ?_); (with_reducible refine awp_rg ?_ ?_); exact rfl; conv => whnf)
    | ((with_reducible refine fun (K1 : AX → AState → Prop) hK => ?_); conv => whnf)
    | ((with_reducible show K1 _ _); subst hK; conv => whnf)
    | (with_reducible exact rfl)
    | ((with_reducible refine sp_dT ?_ ?_); decide; conv => whnf)
    | (refine ⟨(rfl : nodupB _ = true), rfl, ?_⟩; conv => whnf)
    | (with_reducible refine bnd2' ?_ ?_)
    | ((with_reducible refine and_of ?_ ?_); conv => whnf)
    | ((with_reducible show awpOps _ _ _ _ _ _); conv => whnf)
    | (intro h; conv => whnf))
  all_goals (repeat (clear hK; clear K1))
  all_goals first | rfl | decide | skip
set_option maxRecDepth 100000 in
theorem v_fmt2  : CallsV Tryz.prog 127 [.dat (.int .i64 2), .dat (.i 10)] (.dat (.str (numS 2))) := by
  refine CallsV.of_awp tauOk mixOk Tryz.func127 rfl rfl rfl ?_
  conv => whnf
  repeat' (first
    | ((with_reducible refine fun (K1 : AX → AState → Prop) hK => ?_); (with_reducible refine awp_rg ?_ ?_); exact rfl; conv => whnf)
    | ((with_reducible refine fun (K1 : AX → AState → Prop) hK => ?_); conv => whnf)
    | ((with_reducible show K1 _ _); subst hK; conv => whnf)
    | (with_reducible exact rfl)
    | ((with_reducible refine sp_T ?_); conv => whnf)
    | ((with_reducible refine sp_dT ?_ ?_); decide; conv => whnf)
    | ((with_reducible refine sp_eT ?_); conv => whnf)
    | (refine ⟨(rfl : nodupB _ = true), rfl, ?_⟩; conv => whnf)
    | ((with_reducible refine pcI (g := 146) ?_); refine ⟨_, v_small2 .., rfl, ?_⟩; rotate_right; conv => whnf)
    | ((with_reducible show Exists _); refine Exists.intro _ (And.intro (v_small2 ..) (And.intro rfl ?_)); rotate_right; conv => whnf)
    | ((with_reducible show awpOps _ _ _ _ _ _); conv => whnf)
    | (intro h; conv => whnf))
  all_goals (repeat (clear hK; clear K1))
  all_goals first | rfl | decide | skip
set_option maxRecDepth 100000 in
theorem v_ito2  : CallsV Tryz.prog 110 [.dat (.i 2)] (.dat (.str (numS 2))) := by
  refine CallsV.of_awp tauOk mixOk Tryz.func110 rfl rfl rfl ?_
  conv => whnf
  repeat' (first
    | ((with_reducible refine fun (K1 : AX → AState → Prop) hK => ?_); (with_reducible refine awp_rg ?_ ?_); exact rfl; conv => whnf)
    | ((with_reducible refine fun (K1 : AX → AState → Prop) hK => ?_); conv => whnf)
    | ((with_reducible show K1 _ _); subst hK; conv => whnf)
    | (with_reducible exact rfl)
    | (refine ⟨(rfl : nodupB _ = true), rfl, ?_⟩; conv => whnf)
    | ((with_reducible refine pcI (g := 127) ?_); refine ⟨_, v_fmt2 .., rfl, ?_⟩; rotate_right; conv => whnf)
    | ((with_reducible show Exists _); refine Exists.intro _ (And.intro (v_fmt2 ..) (And.intro rfl ?_)); rotate_right; conv => whnf)
    | ((with_reducible show awpOps _ _ _ _ _ _); conv => whnf)
    | (intro h; conv => whnf))
  all_goals (repeat (clear hK; clear K1))
  all_goals first | rfl | decide | skip
set_option maxRecDepth 100000 in
theorem v_Ito2  : CallsV Tryz.prog 92 [.dat (.i 2)] (.dat (.str (numS 2))) := by
  refine CallsV.of_awp tauOk mixOk Tryz.func92 rfl rfl rfl ?_
  conv => whnf
  repeat' (first
    | ((with_reducible refine fun (K1 : AX → AState → Prop) hK => ?_); (with_reducible refine awp_rg ?_ ?_); exact rfl; conv => whnf)
    | ((with_reducible refine fun (K1 : AX → AState → Prop) hK => ?_); conv => whnf)
    | ((with_reducible show K1 _ _); subst hK; conv => whnf)
    | (with_reducible exact rfl)
    | (refine ⟨(rfl : nodupB _ = true), rfl, ?_⟩; conv => whnf)
    | ((with_reducible refine pcI (g := 110) ?_); refine ⟨_, v_ito2 .., rfl, ?_⟩; rotate_right; conv => whnf)
    | ((with_reducible show Exists _); refine Exists.intro _ (And.intro (v_ito2 ..) (And.intro rfl ?_)); rotate_right; conv => whnf)
    | ((with_reducible show awpOps _ _ _ _ _ _); conv => whnf)
    | (intro h; conv => whnf))
  all_goals (repeat (clear hK; clear K1))
  all_goals first | rfl | decide | skip
set_option maxRecDepth 100000 in
theorem v_Fmt2  : CallsV Tryz.prog 65 [.dat (.i 2)] (.dat (.str (numS 2))) := by
  refine CallsV.of_awp tauOk mixOk Tryz.func65 rfl rfl rfl ?_
  conv => whnf
  repeat' (first
    | ((with_reducible refine fun (K1 : AX → AState → Prop) hK => ?_); (with_reducible refine awp_rg ?_ ?_); exact rfl; conv => whnf)
    | ((with_reducible refine fun (K1 : AX → AState → Prop) hK => ?_); conv => whnf)
    | ((with_reducible show K1 _ _); subst hK; conv => whnf)
    | (with_reducible exact rfl)
    | (refine ⟨(rfl : nodupB _ = true), rfl, ?_⟩; conv => whnf)
    | ((with_reducible refine pcI (g := 92) ?_); refine ⟨_, v_Ito2 .., rfl, ?_⟩; rotate_right; conv => whnf)
    | ((with_reducible show Exists _); refine Exists.intro _ (And.intro (v_Ito2 ..) (And.intro rfl ?_)); rotate_right; conv => whnf)
    | ((with_reducible show awpOps _ _ _ _ _ _); conv => whnf)
    | (intro h; conv => whnf))
  all_goals (repeat (clear hK; clear K1))
  all_goals first | rfl | decide | skip
theorem i_FormatInt (n : Int) (h0 : 0 ≤ n) (h1 : n ≤ 2) : CallsV Tryz.prog 65 [.dat (.i n)] (.dat (.str (numS n))) := by
  have : n = 0 ∨ n = 1 ∨ n = 2 := by omega
  rcases this with rfl | rfl | rfl
  · exact v_Fmt0
  · exact v_Fmt1
  · exact v_Fmt2
set_option maxRecDepth 100000 in
theorem i_VarTerm (w : Int) (s : ByteArray) (hw : inP w 1 16 = true) (hs : isNameP s = true) : CallsV Tryz.prog 139 [.dat (.i w), .dat (.str s)] (.agg [.dat (.i 22), .dat (.i w), .dat (.i 0), .dat (.str s), .dat (.seq .terms [])]) := by
  refine CallsV.of_awp tauOk mixOk Tryz.func139 rfl rfl rfl ?_
  conv => whnf
  repeat' (first
    | ((with_reducible refine fun (K1 : AX → AState → Prop) hK => ?_); (with_reducible refine awp_rg ?_ ?_); exact rfl; conv => whnf)
    | ((with_reducible refine fun (K1 : AX → AState → Prop) hK => ?_); conv => whnf)
    | ((with_reducible show K1 _ _); subst hK; conv => whnf)
    | (with_reducible exact rfl)
    | ((with_reducible refine sp_F' ?_); conv => whnf)
    | ((with_reducible refine sp_nb (fun h => ?_) (fun h => ?_)) <;> first | (exact Bool.noConfusion (Eq.trans (Eq.symm h) (show _ = true by with_reducible assumption))) | (exact Bool.noConfusion (Eq.trans (Eq.symm (show _ = false by with_reducible assumption)) h)) | (conv => whnf))
    | ((with_reducible refine sp_nb' (fun h => ?_) (fun h => ?_)) <;> first | (exact Bool.noConfusion (Eq.trans (Eq.symm h) (show _ = true by with_reducible assumption))) | (exact Bool.noConfusion (Eq.trans (Eq.symm (show _ = false by with_reducible assumption)) h)) | (conv => whnf))
    | (refine ⟨(rfl : nodupB _ = true), rfl, ?_⟩; conv => whnf)
    | ((with_reducible refine and_of ?_ ?_); conv => whnf)
    | ((with_reducible refine pcI (g := 102) ?_); refine ⟨_, i_isWidth .., rfl, ?_⟩; rotate_right; conv => whnf)
    | ((with_reducible show Exists _); refine Exists.intro _ (And.intro (i_isWidth ..) (And.intro rfl ?_)); rotate_right; conv => whnf)
    | ((with_reducible refine pcI (g := 156) ?_); refine ⟨_, i_IsName .., rfl, ?_⟩; rotate_right; conv => whnf)
    | ((with_reducible show Exists _); refine Exists.intro _ (And.intro (i_IsName ..) (And.intro rfl ?_)); rotate_right; conv => whnf)
    | ((with_reducible show awpOps _ _ _ _ _ _); conv => whnf)
    | (intro h; conv => whnf))
  all_goals (repeat (clear hK; clear K1))
  all_goals first | exact rfl | exact True.intro | (exact absurd (hw.symm.trans (by with_reducible assumption)) (by decide)) | (exact absurd (hs.symm.trans (by with_reducible assumption)) (by decide)) | skip
set_option maxRecDepth 100000 in
theorem i_CloneT0 (l : List (K.T .terms)) (h1 : l.length ≤ 1048576) : CallsF Tryz.prog 145 [.dat (.seq .terms l)] false (fun res B => (res = .nils ∧ B = [] ∧ l.length = 0) ∨ (res = .row 0 ∧ B = [.row 109 .terms l false])) := by
  refine CallsF.of_awp tauOk mixOk Tryz.func145 rfl rfl rfl ?_
  conv => whnf
  repeat' (first
    | ((with_reducible refine fun (K1 : AX → AState → Prop) hK => ?_); (with_reducible refine awp_rg ?_ ?_); exact rfl; conv => whnf)
    | ((with_reducible refine Alt.l ?_); conv => whnf)
    | ((with_reducible refine fun (K1 : AX → AState → Prop) hK => ?_); conv => whnf)
    | ((with_reducible show K1 _ _); subst hK; conv => whnf)
    | (with_reducible exact rfl)
    | ((with_reducible refine sp_b (fun h => ?_) (fun h => ?_)) <;> first | (exact Bool.noConfusion (Eq.trans (Eq.symm h) (show _ = true by with_reducible assumption))) | (exact Bool.noConfusion (Eq.trans (Eq.symm (show _ = false by with_reducible assumption)) h)) | (conv => whnf))
    | (refine ⟨(rfl : nodupB _ = true), rfl, ?_⟩; conv => whnf)
    | (with_reducible refine bndN ?_ ?_)
    | ((with_reducible refine and_of ?_ ?_); conv => whnf)
    | ((with_reducible show awpOps _ _ _ _ _ _); conv => whnf)
    | (intro h; conv => whnf))
  all_goals (repeat (clear hK; clear K1))
  all_goals first | exact .inl ⟨rfl, rfl, by simp_all⟩ | exact .inl ⟨rfl, rfl, by assumption⟩ | exact .inr ⟨rfl, rfl⟩ | (have hm : maxLen = 9223372036854775807 := rfl; simp; omega) | (show (_ + l.length) * 64 ≤ _; simp; omega) | skip
theorem i_CloneT (l : List (K.T .terms)) (h1 : l.length ≤ 1048576) : CallsF Tryz.prog 145 [.dat (.seq .terms l)] false (fun res B => res = .row 0 ∧ B = [.row 109 .terms l false]) := nilRowF (i_CloneT0 l h1)
set_option maxRecDepth 100000 in
theorem i_CloneN0 (l : List (K.T .ints)) (h1 : l.length ≤ 1048576) : CallsF Tryz.prog 108 [.dat (.seq .ints l)] true (fun res B => (res = .nils ∧ B = [] ∧ l.length = 0) ∨ (res = .row 0 ∧ B = [.row 3 .ints l false])) := by
  refine CallsF.of_awp tauOk mixOk Tryz.func108 rfl rfl rfl ?_
  conv => whnf
  repeat' (first
    | ((with_reducible refine fun (K1 : AX → AState → Prop) hK => ?_); (with_reducible refine awp_rg ?_ ?_); exact rfl; conv => whnf)
    | ((with_reducible refine fun (K1 : AX → AState → Prop) hK => ?_); conv => whnf)
    | ((with_reducible show K1 _ _); subst hK; conv => whnf)
    | (with_reducible exact rfl)
    | ((with_reducible refine sp_b (fun h => ?_) (fun h => ?_)) <;> first | (exact Bool.noConfusion (Eq.trans (Eq.symm h) (show _ = true by with_reducible assumption))) | (exact Bool.noConfusion (Eq.trans (Eq.symm (show _ = false by with_reducible assumption)) h)) | (conv => whnf))
    | (refine ⟨(rfl : nodupB _ = true), rfl, ?_⟩; conv => whnf)
    | (with_reducible refine bndN ?_ ?_)
    | ((with_reducible refine and_of ?_ ?_); conv => whnf)
    | ((with_reducible show awpOps _ _ _ _ _ _); conv => whnf)
    | (intro h; conv => whnf))
  all_goals (repeat (clear hK; clear K1))
  all_goals first | exact .inl ⟨rfl, rfl, by simp_all⟩ | exact .inl ⟨rfl, rfl, by assumption⟩ | exact .inr ⟨rfl, rfl⟩ | (have hm : maxLen = 9223372036854775807 := rfl; simp; omega) | (show (_ + l.length) * 8 ≤ _; simp; omega) | skip
theorem i_CloneN (l : List (K.T .ints)) (h1 : l.length ≤ 1048576) : CallsF Tryz.prog 108 [.dat (.seq .ints l)] true (fun res B => res = .row 0 ∧ B = [.row 3 .ints l false]) := nilRowF (i_CloneN0 l h1)
set_option maxRecDepth 100000 in
theorem i_ClipT (l : List V.Term) : CallsG Tryz.prog 144 [.row 0] [.row 109 .terms l false] 0 (fun res B => res = .row 0 ∧ B = [.row 109 .terms l false]) := by
  refine CallsG.of_awp tauOk mixOk Tryz.func144 rfl rfl rfl ?_
  conv => whnf
  repeat' (first
    | ((with_reducible refine fun (K1 : AX → AState → Prop) hK => ?_); (with_reducible refine awp_rg ?_ ?_); exact rfl; conv => whnf)
    | ((with_reducible refine fun (K1 : AX → AState → Prop) hK => ?_); conv => whnf)
    | ((with_reducible show K1 _ _); subst hK; conv => whnf)
    | (with_reducible exact rfl)
    | (refine ⟨(rfl : nodupB _ = true), rfl, ?_⟩; conv => whnf)
    | (with_reducible refine bnd2' ?_ ?_)
    | ((with_reducible refine and_of ?_ ?_); conv => whnf)
    | ((with_reducible show awpOps _ _ _ _ _ _); conv => whnf)
    | (intro h; conv => whnf))
  all_goals (repeat (clear hK; clear K1))
  all_goals first | exact ⟨rfl, rfl⟩ | rfl | omega | (simp; done) | skip
set_option maxRecDepth 100000 in
theorem i_put (l : List V.Term) (k : Int) (to tw tn : Int) (tm : ByteArray) (tk : List V.Term) (h1 : l.length ≤ 1048576) (hk : 0 ≤ k ∧ k < l.length) : CallsV Tryz.prog 137 [.dat (.seq .terms l), .dat (.i k), .agg [.dat (.i to), .dat (.i tw), .dat (.i tn), .dat (.str tm), .dat (.seq .terms tk)]] (.dat (.seq .terms (l.set k.toNat ⟨to, tw, tn, tm, tk⟩))) := by
  refine CallsV.of_awp tauOk mixOk Tryz.func137 rfl rfl rfl ?_
  conv => whnf
  repeat' (first
    | ((with_reducible refine fun (K1 : AX → AState → Prop) hK => ?_); (with_reducible refine awp_rg ?_ ?_); exact rfl; conv => whnf)
    | ((with_reducible refine fun (K1 : AX → AState → Prop) hK => ?_); conv => whnf)
    | ((with_reducible show K1 _ _); subst hK; conv => whnf)
    | (with_reducible exact rfl)
    | (refine ⟨(rfl : nodupB _ = true), rfl, ?_⟩; conv => whnf)
    | (with_reducible refine bnd2 ?_ ?_)
    | ((with_reducible refine and_of ?_ ?_); conv => whnf)
    | ((with_reducible refine fcI (g := 145) ?_); refine ⟨_, _, i_CloneT (h1 := ?_) .., rfl, fun res B hRB => ?_⟩; rotate_right; obtain ⟨rfl, rfl⟩ := hRB; conv => whnf)
    | ((with_reducible show awpOps _ _ _ _ _ _); conv => whnf)
    | (intro h; conv => whnf))
  all_goals (repeat (clear hK; clear K1))
  all_goals first | (with_reducible assumption) | exact hk.1 | exact hk.2 | rfl | omega | skip
set_option maxRecDepth 100000 in
theorem i_more (l : List V.Term) (to tw tn : Int) (tm : ByteArray) (tk : List V.Term) (h1 : l.length ≤ 1000000) : CallsV Tryz.prog 126 [.dat (.seq .terms l), .agg [.dat (.i to), .dat (.i tw), .dat (.i tn), .dat (.str tm), .dat (.seq .terms tk)]] (.dat (.seq .terms (l ++ [⟨to, tw, tn, tm, tk⟩]))) := by
  refine CallsV.of_awp tauOk mixOk Tryz.func126 rfl rfl rfl ?_
  conv => whnf
  repeat' (first
    | ((with_reducible refine fun (K1 : AX → AState → Prop) hK => ?_); (with_reducible refine awp_rg ?_ ?_); exact rfl; conv => whnf)
    | ((with_reducible refine Alt.l ?_); conv => whnf)
    | ((with_reducible refine fun (K1 : AX → AState → Prop) hK => ?_); conv => whnf)
    | ((with_reducible show K1 _ _); subst hK; conv => whnf)
    | (with_reducible exact rfl)
    | (refine ⟨(rfl : nodupB _ = true), rfl, ?_⟩; conv => whnf)
    | (with_reducible refine bndN ?_ ?_)
    | ((with_reducible refine and_of ?_ ?_); conv => whnf)
    | ((with_reducible refine gcI (g := 144) ?_); refine ⟨_, _, i_ClipT .., fun res B hRB => ?_⟩; rotate_right; obtain ⟨rfl, rfl⟩ := hRB; conv => whnf)
    | ((with_reducible refine fcI (g := 145) ?_); refine ⟨_, _, i_CloneT (h1 := ?_) .., rfl, fun res B hRB => ?_⟩; rotate_right; obtain ⟨rfl, rfl⟩ := hRB; conv => whnf)
    | ((with_reducible show awpOps _ _ _ _ _ _); conv => whnf)
    | (intro h; conv => whnf))
  all_goals (repeat (clear hK; clear K1))
  all_goals first | (with_reducible assumption) | rfl | omega | (show (l.length + 1) * 64 ≤ _; omega) | (show l.length + 1 ≤ 2 ^ 63 - 1; omega) | skip
set_option maxRecDepth 100000 in
theorem i_with (l : List Int) (n : Int) (h1 : l.length ≤ 1000000) : CallsV Tryz.prog 88 [.dat (.seq .ints l), .dat (.i n)] (.dat (.seq .ints (l ++ [n]))) := by
  refine CallsV.of_awp tauOk mixOk Tryz.func88 rfl rfl rfl ?_
  conv => whnf
  repeat' (first
    | ((with_reducible refine fun (K1 : AX → AState → Prop) hK => ?_); (with_reducible refine awp_rg ?_ ?_); exact rfl; conv => whnf)
    | ((with_reducible refine fun (K1 : AX → AState → Prop) hK => ?_); conv => whnf)
    | ((with_reducible show K1 _ _); subst hK; conv => whnf)
    | (with_reducible exact rfl)
    | (refine ⟨(rfl : nodupB _ = true), rfl, ?_⟩; conv => whnf)
    | (with_reducible refine bndN ?_ ?_)
    | ((with_reducible refine and_of ?_ ?_); conv => whnf)
    | ((with_reducible refine fcI (g := 108) ?_); refine ⟨_, _, i_CloneN (h1 := ?_) .., rfl, fun res B hRB => ?_⟩; rotate_right; obtain ⟨rfl, rfl⟩ := hRB; conv => whnf)
    | ((with_reducible show awpOps _ _ _ _ _ _); conv => whnf)
    | (intro h; conv => whnf))
  all_goals (repeat (clear hK; clear K1))
  all_goals first | (with_reducible assumption) | rfl | omega | (show (l.length + 1) * 8 ≤ _; omega) | (show l.length + 1 ≤ 2 ^ 63 - 1; omega) | skip
end Vg
