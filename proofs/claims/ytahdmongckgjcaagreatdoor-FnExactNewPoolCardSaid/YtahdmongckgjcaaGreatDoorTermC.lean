/- Terms are compared: contracts of the program's and the reference's functions. No condition. -/
import Derived.Test.YtahdmongckgjcaaGreatDoorTermI
import Derived.Test.YtahdmongckgjcaaGreatDoorRedQ
import Derived.Test.YtahdmongckgjcaaGreatDoorRet
import Derived.Test.YtahdmongckgjcaaGreatDoorBase
namespace Vg
open Go Go.Proofs
theorem cb_eq : ∀ (x y : List UInt8), Lib.compareBytes x y = if Op.bytesLess x y = true then -1 else if Op.bytesLess y x = true then 1 else 0
  | [], [] => by simp [Lib.compareBytes, Op.bytesLess]
  | [], _ :: _ => by simp [Lib.compareBytes, Op.bytesLess]
  | _ :: _, [] => by simp [Lib.compareBytes, Op.bytesLess]
  | a :: x, b :: y => by
    rw [Lib.compareBytes, Op.bytesLess, Op.bytesLess, cb_eq x y]
    by_cases h1 : a < b
    · simp [h1]
    · by_cases h2 : b < a
      · have h3 : ¬ a = b := fun e => by subst e; exact absurd h2 h1
        simp [h1, h2, h3]
      · have h3 : a = b := UInt8.le_antisymm (UInt8.not_lt.1 h2) (UInt8.not_lt.1 h1)
        subst h3
        simp [h1]
theorem v_strCmp (a b : ByteArray) : CallsV Tryz.prog 211 [.dat (.str a), .dat (.str b)] (.dat (.i (scmp a b))) := by
  have e : scmp a b = Lib.compareBytes a.data.toList b.data.toList := by
    rw [cb_eq]
    unfold scmp sLess
    rw [Lib.toList_data, Lib.toList_data]
  rw [e]
  exact compV Tryz.lays106 rfl ⟨_, Tryz.func211, rfl, rfl⟩ a b
set_option maxRecDepth 100000 in
theorem v_isNaN (n : Int) : CallsV Tryz.prog 218 [.dat (.i n)] (.dat (.bool false)) := by
  refine CallsV.of_awp tauOk mixOk Tryz.func218 rfl rfl rfl ?_
  conv => whnf
  repeat' (first
    | ((with_reducible refine fun (K1 : AX → AState → Prop) hK => ?_); conv => whnf)
    | ((with_reducible show K1 _ _); subst hK; conv => whnf)
    | (with_reducible exact rfl)
    | (refine ⟨(rfl : nodupB _ = true), rfl, ?_⟩; conv => whnf)
    | ((with_reducible show awpOps _ _ _ _ _ _); conv => whnf)
    | (intro h; conv => whnf))
  all_goals (repeat (clear hK; clear K1))
  all_goals first | rfl | (exact db_eq (by simp)) | skip
set_option maxRecDepth 100000 in
theorem v_cmpInt (a b : Int) : CallsV Tryz.prog 210 [.dat (.i a), .dat (.i b)] (.dat (.i (sgn a b))) := by
  refine CallsV.of_awp tauOk mixOk Tryz.func210 rfl rfl rfl ?_
  conv => whnf
  repeat' (first
    | ((with_reducible refine fun (K1 : AX → AState → Prop) hK => ?_); conv => whnf)
    | ((with_reducible show K1 _ _); subst hK; conv => whnf)
    | (with_reducible exact rfl)
    | ((with_reducible refine sp_F ?_); conv => whnf)
    | ((with_reducible refine sp_d (fun h => ?_) (fun h => ?_)) <;> first | contradiction | (subst h; conv => whnf) | (conv => whnf))
    | (refine ⟨(rfl : nodupB _ = true), rfl, ?_⟩; conv => whnf)
    | ((with_reducible refine pcI (g := 218) ?_); refine ⟨_, v_isNaN .., rfl, ?_⟩; rotate_right; conv => whnf)
    | ((with_reducible show Exists _); refine Exists.intro _ (And.intro (v_isNaN ..) (And.intro rfl ?_)); rotate_right; conv => whnf)
    | ((with_reducible show awpOps _ _ _ _ _ _); conv => whnf)
    | (intro h; conv => whnf))
  all_goals (repeat (clear hK; clear K1))
  all_goals (refine di_eq ?_; unfold sgn; (repeat' split) <;> omega)
section
variable {a b : V.Term} {i : Nat}
theorem cm_op (h : ¬ sgn a.op b.op = 0) : cmpT a b = sgn a.op b.op := cmp_op h
theorem cm_w (h1 : sgn a.op b.op = 0) (h : ¬ sgn a.w b.w = 0) : cmpT a b = sgn a.w b.w := cmp_w (fun k => k h1) h
theorem cm_n (h1 : sgn a.op b.op = 0) (h2 : sgn a.w b.w = 0) (h : ¬ sgn a.n b.n = 0) : cmpT a b = sgn a.n b.n := cmp_n (fun k => k h1) (fun k => k h2) h
theorem cm_nm (h1 : sgn a.op b.op = 0) (h2 : sgn a.w b.w = 0) (h3 : sgn a.n b.n = 0) (h : ¬ scmp a.name b.name = 0) : cmpT a b = scmp a.name b.name := cmp_nm (fun k => k h1) (fun k => k h2) (fun k => k h3) h
theorem cmI_0 (h1 : sgn a.op b.op = 0) (h2 : sgn a.w b.w = 0) (h3 : sgn a.n b.n = 0) (h4 : scmp a.name b.name = 0) : CmpI a b 0 := cmpI_0 (fun k => k h1) (fun k => k h2) (fun k => k h3) (fun k => k h4)
theorem cmI_s (h : CmpI a b i) (h1 : (i : Int) < a.kids.length) (h2 : (i : Int) < b.kids.length) (h0 : cmpT (kE a.kids i) (kE b.kids i) = 0) : CmpI a b (i + 1) := by
  rw [kE_eq, kE_eq] at h0
  exact cmpI_s h h1 h2 (fun k => k h0)
theorem cmI_f (h : CmpI a b i) (h1 : (i : Int) < a.kids.length) (h2 : (i : Int) < b.kids.length) (h0 : ¬ cmpT (kE a.kids i) (kE b.kids i) = 0) : cmpT a b = cmpT (kE a.kids i) (kE b.kids i) := by
  rw [kE_eq, kE_eq] at *
  exact cmpI_f h h1 h2 h0
theorem cmI_e1 (h : CmpI a b i) (h1 : ¬ (i : Int) < a.kids.length) : cmpT a b = sgn a.kids.length b.kids.length := cmpI_e h fun k => h1 k.1
theorem cmI_e2 (h : CmpI a b i) (h1 : ¬ (i : Int) < b.kids.length) : cmpT a b = sgn a.kids.length b.kids.length := cmpI_e h fun k => h1 k.2
end
structure IHCi (a : V.Term) : Prop where
  call : ∀ (op w n : Int) (nm : ByteArray) (ks : List V.Term) (op' w' n' : Int) (nm' : ByteArray) (ks' : List V.Term), sizeT ⟨op, w, n, nm, ks⟩ < sizeT a →
    CallsV Tryz.prog 192 [.agg [.dat (.i op), .dat (.i w), .dat (.i n), .dat (.str nm), .dat (.seq .terms ks)], .agg [.dat (.i op'), .dat (.i w'), .dat (.i n'), .dat (.str nm'), .dat (.seq .terms ks')]] (.dat (.i (cmpT ⟨op, w, n, nm, ks⟩ ⟨op', w', n', nm', ks'⟩)))
theorem ih_ci {a : V.Term} (ih : IHCi a) {op w n : Int} {nm : ByteArray} {ks : List V.Term} {op' w' n' : Int} {nm' : ByteArray} {ks' : List V.Term} (hs : sizeT ⟨op, w, n, nm, ks⟩ < sizeT a) :
    CallsV Tryz.prog 192 [.agg [.dat (.i op), .dat (.i w), .dat (.i n), .dat (.str nm), .dat (.seq .terms ks)], .agg [.dat (.i op'), .dat (.i w'), .dat (.i n'), .dat (.str nm'), .dat (.seq .terms ks')]] (.dat (.i (cmpT ⟨op, w, n, nm, ks⟩ ⟨op', w', n', nm', ks'⟩))) := ih.call op w n nm ks op' w' n' nm' ks' hs
set_option maxHeartbeats 4000000 in
set_option maxRecDepth 100000 in
theorem i_CompareTerms0 (a b : V.Term) (ih : IHCi a) : CallsV Tryz.prog 192 [.agg [.dat (.i a.op), .dat (.i a.w), .dat (.i a.n), .dat (.str a.name), .dat (.seq .terms a.kids)], .agg [.dat (.i b.op), .dat (.i b.w), .dat (.i b.n), .dat (.str b.name), .dat (.seq .terms b.kids)]] (.dat (.i (cmpT a b))) := by
  refine CallsV.of_awp tauOk mixOk Tryz.func192 rfl rfl rfl ?_
  conv => whnf
  repeat' (first
    | ((with_reducible refine Alt.l ?_); conv => whnf)
    | ((with_reducible refine fun (K1 : AX → AState → Prop) hK => ?_); conv => whnf)
    | ((with_reducible show K1 _ _); subst hK; conv => whnf)
    | (with_reducible exact rfl)
    | ((with_reducible refine sp_T ?_); conv => whnf)
    | ((with_reducible refine sp_F ?_); conv => whnf)
    | ((with_reducible refine sp_d (fun h => ?_) (fun h => ?_)) <;> first | contradiction | (subst h; conv => whnf) | (conv => whnf))
    | ((with_reducible refine sp_n (fun h => ?_) (fun h => ?_)) <;> first | contradiction | (subst h; conv => whnf) | (conv => whnf))
    | (refine ⟨(rfl : nodupB _ = true), rfl, ?_⟩; conv => whnf)
    | (with_reducible refine bnd2 ?_ ?_)
    | ((with_reducible refine and_of ?_ ?_); conv => whnf)
    | (refine Exists.intro ({i : Nat // CmpI a b i}) (Exists.intro (fun ⟨i, hi⟩ => mkS Tryz.f192.ntmps [(2, .ptr 2 0), (3, .ptr 3 0), (9, .dat (.i i))] [(2, .box [.dat (.i a.op), .dat (.i a.w), .dat (.i a.n), .dat (.str a.name), .dat (.seq .terms a.kids)]), (3, .box [.dat (.i b.op), .dat (.i b.w), .dat (.i b.n), .dat (.str b.name), .dat (.seq .terms b.kids)])]) (Exists.intro (fun ⟨i, hi⟩ => a.kids.length - i) (Exists.intro ⟨0, ?_⟩ (And.intro (SubP.sub (σ := [(2, some 2), (3, some 3)]) ⟨⟨rfl, rfl, rfl⟩, ⟨⟨rfl, rfl⟩, ⟨rfl, rfl⟩, (wk_dat ?_), trivial⟩, ⟨⟨(wkC_dat ?_), (wkC_dat ?_), (wkC_dat ?_), (wkC_dat ?_), (wkC_dat ?_), trivial⟩, ⟨(wkC_dat ?_), (wkC_dat ?_), (wkC_dat ?_), (wkC_dat ?_), (wkC_dat ?_), trivial⟩, trivial⟩⟩) (fun ⟨i, hi⟩ => ?_))))); rotate_right; conv => whnf)
    | (refine Exists.intro (⟨i + 1, ?_⟩ : {i : Nat // CmpI a b i}) (And.intro ?_ (SubP.sub (σ := [(2, some 2), (3, some 3)]) ⟨⟨rfl, rfl, rfl⟩, ⟨⟨rfl, rfl⟩, ⟨rfl, rfl⟩, (wk_dat ?_), trivial⟩, ⟨⟨(wkC_dat ?_), (wkC_dat ?_), (wkC_dat ?_), (wkC_dat ?_), (wkC_dat ?_), trivial⟩, ⟨(wkC_dat ?_), (wkC_dat ?_), (wkC_dat ?_), (wkC_dat ?_), (wkC_dat ?_), trivial⟩, trivial⟩⟩)))
    | ((with_reducible refine pcI (g := 210) ?_); refine ⟨_, v_cmpInt .., rfl, ?_⟩; rotate_right; conv => whnf)
    | ((with_reducible show Exists _); refine Exists.intro _ (And.intro (v_cmpInt ..) (And.intro rfl ?_)); rotate_right; conv => whnf)
    | ((with_reducible refine pcI (g := 211) ?_); refine ⟨_, v_strCmp .., rfl, ?_⟩; rotate_right; conv => whnf)
    | ((with_reducible show Exists _); refine Exists.intro _ (And.intro (v_strCmp ..) (And.intro rfl ?_)); rotate_right; conv => whnf)
    | ((with_reducible refine pcI (g := 192) ?_); refine ⟨_, ih_ci (ih := by assumption) (hs := ?_) .., rfl, ?_⟩; rotate_right; conv => whnf)
    | ((with_reducible show Exists _); refine Exists.intro _ (And.intro (ih_ci (ih := by assumption) (hs := ?_) ..) (And.intro rfl ?_)); rotate_right; conv => whnf)
    | ((with_reducible show awpOps _ _ _ _ _ _); conv => whnf)
    | (intro h; conv => whnf))
  all_goals (repeat (clear hK; clear K1))
  all_goals first
    | exact di_eq (rfl : ((0 : Nat) : Int) = 0)
    | (refine di_eq ?_; rw [wrap_id (by omega) (by omega)]; done)
    | (have hm : maxLen = 9223372036854775807 := rfl; refine di_eq ?_; rw [wrap_id (by omega) (by omega)]; omega)
    | (rw [V.Term.eta]; exact size_kidT (by with_reducible assumption))
    | exact cmI_0 (by with_reducible assumption) (by with_reducible assumption) (by with_reducible assumption) (by with_reducible assumption)
    | exact cmI_s hi (by with_reducible assumption) (by with_reducible assumption) (by with_reducible assumption)
    | (refine di_eq ?_; first | exact cmI_f hi (by with_reducible assumption) (by with_reducible assumption) (by with_reducible assumption) | exact cmI_e1 hi (by with_reducible assumption) | exact cmI_e2 hi (by with_reducible assumption) | exact cm_op (by with_reducible assumption) | exact cm_w (by with_reducible assumption) (by with_reducible assumption) | exact cm_n (by with_reducible assumption) (by with_reducible assumption) (by with_reducible assumption) | exact cm_nm (by with_reducible assumption) (by with_reducible assumption) (by with_reducible assumption) (by with_reducible assumption))
    | omega
    | (dsimp only; omega)
    | skip
theorem i_CompareTerms (op w n : Int) (nm : ByteArray) (ks : List V.Term) (op' w' n' : Int) (nm' : ByteArray) (ks' : List V.Term) :
    CallsV Tryz.prog 192 [.agg [.dat (.i op), .dat (.i w), .dat (.i n), .dat (.str nm), .dat (.seq .terms ks)], .agg [.dat (.i op'), .dat (.i w'), .dat (.i n'), .dat (.str nm'), .dat (.seq .terms ks')]] (.dat (.i (cmpT ⟨op, w, n, nm, ks⟩ ⟨op', w', n', nm', ks'⟩))) := by
  have key : ∀ (k : Nat) (a b : V.Term), sizeT a < k →
      CallsV Tryz.prog 192 [.agg [.dat (.i a.op), .dat (.i a.w), .dat (.i a.n), .dat (.str a.name), .dat (.seq .terms a.kids)], .agg [.dat (.i b.op), .dat (.i b.w), .dat (.i b.n), .dat (.str b.name), .dat (.seq .terms b.kids)]] (.dat (.i (cmpT a b))) := by
    intro k
    induction k with
    | zero => intro t _ h; omega
    | succ k ih =>
      intro a b h
      exact i_CompareTerms0 a b ⟨fun op w n nm ks op' w' n' nm' ks' hs => ih ⟨op, w, n, nm, ks⟩ ⟨op', w', n', nm', ks'⟩ (by omega)⟩
  exact key _ ⟨op, w, n, nm, ks⟩ ⟨op', w', n', nm', ks'⟩ (Nat.lt_succ_self _)
section
variable {a b : V.Term} {i j : Nat}
abbrev s3 (a b : V.Term) : List Int := [sgn a.op b.op, sgn a.w b.w, sgn a.n b.n]
end
set_option maxRecDepth 100000 in
theorem i_sameTerm (op w n : Int) (nm : ByteArray) (ks : List V.Term) (op' w' n' : Int) (nm' : ByteArray) (ks' : List V.Term) : CallsV Tryz.prog 189 [.agg [.dat (.i op), .dat (.i w), .dat (.i n), .dat (.str nm), .dat (.seq .terms ks)], .agg [.dat (.i op'), .dat (.i w'), .dat (.i n'), .dat (.str nm'), .dat (.seq .terms ks')]] (.dat (.bool (cmpT ⟨op, w, n, nm, ks⟩ ⟨op', w', n', nm', ks'⟩ == 0))) := by
  refine CallsV.of_awp tauOk mixOk Tryz.func189 rfl rfl rfl ?_
  conv => whnf
  repeat' (first
    | ((with_reducible refine fun (K1 : AX → AState → Prop) hK => ?_); conv => whnf)
    | ((with_reducible show K1 _ _); subst hK; conv => whnf)
    | (with_reducible exact rfl)
    | (refine ⟨(rfl : nodupB _ = true), rfl, ?_⟩; conv => whnf)
    | ((with_reducible refine pcI (g := 192) ?_); refine ⟨_, i_CompareTerms .., rfl, ?_⟩; rotate_right; conv => whnf)
    | ((with_reducible show Exists _); refine Exists.intro _ (And.intro (i_CompareTerms ..) (And.intro rfl ?_)); rotate_right; conv => whnf)
    | ((with_reducible show awpOps _ _ _ _ _ _); conv => whnf)
    | (intro h; conv => whnf))
  all_goals (repeat (clear hK; clear K1))
  all_goals first | rfl | skip
end Vg
