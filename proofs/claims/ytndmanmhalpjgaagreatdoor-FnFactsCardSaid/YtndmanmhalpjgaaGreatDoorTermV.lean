/- Terms are compared: contracts of the program's and the reference's functions. No condition. -/
import Derived.Test.YtndmanmhalpjgaaGreatDoorTermI
import Derived.Test.YtndmanmhalpjgaaGreatDoorRedQ
import Derived.Test.YtndmanmhalpjgaaGreatDoorRet
import Derived.Test.YtndmanmhalpjgaaGreatDoorBase
namespace Vg
open Go Go.Proofs
set_option maxRecDepth 100000
set_option maxHeartbeats 40000000
theorem cb_eq : ∀ (x y : List UInt8), Lib.compareBytes x y = if Op.bytesLess x y = true then -1 else if Op.bytesLess y x = true then 1 else 0
  | [], [] => by simp [Lib.compareBytes, Op.bytesLess]
  | [], _ :: _ => by simp [Lib.compareBytes, Op.bytesLess]
  | _ :: _, [] => by simp [Lib.compareBytes, Op.bytesLess]
  | a :: x, b :: y => by
    rw [Lib.compareBytes, Op.bytesLess, Op.bytesLess, cb_eq x y]
    by_cases h1 : a < b
    · simp [h1]
    · by_cases h2 : b < a
      · have h3 : ¬ a = b := fun e => by subst e; exact absurd h2 h1
        simp [h1, h2, h3]
      · have h3 : a = b := UInt8.le_antisymm (UInt8.not_lt.1 h2) (UInt8.not_lt.1 h1)
        subst h3
        simp [h1]
theorem aW (a b : ByteArray) : CallsV Tryz.prog 127 [.dat (.str a), .dat (.str b)] (.dat (.i (n8 a b))) := by
  have e : n8 a b = Lib.compareBytes a.data.toList b.data.toList := by
    rw [cb_eq]
    unfold n8 jA
    rw [Lib.toList_data, Lib.toList_data]
  rw [e]
  exact compV Tryz.lays106 rfl ⟨_, Tryz.func127, rfl, rfl⟩ a b
theorem v_isNaN (n : Int) : CallsV Tryz.prog 132 [.dat (.i n)] (.dat (.bool false)) := by
  refine oV Tryz.func132 ⟨?_⟩
  repeat' (first | ((with_reducible refine fun (K1 : KT) hK => ?_); refine j4 ⟨?_⟩) | ((with_reducible show K1 _ _); subst hK; conv => whnf) | (with_reducible exact rfl) | refine m0 ⟨?_⟩ | ((with_reducible refine SplS.mk (fun h => ?_) (fun h => ?_)) <;> first | exact z1 | (subst h; conv => whnf) | (conv => whnf)) | (intro h; conv => whnf))
  all_goals repeat clear hK K1
  all_goals first | rfl | (exact db_eq (by simp)) | skip
theorem bW (a b : Int) : CallsV Tryz.prog 126 [.dat (.i a), .dat (.i b)] (.dat (.i (p3 a b))) := by
  refine oV Tryz.func126 ⟨?_⟩
  repeat' (first | ((with_reducible refine fun (K1 : KT) hK => ?_); refine j4 ⟨?_⟩) | ((with_reducible show K1 _ _); subst hK; conv => whnf) | (with_reducible exact rfl) | refine m0 ⟨?_⟩ | ((with_reducible refine SplS.mk (fun h => ?_) (fun h => ?_)) <;> first | exact z1 | (subst h; conv => whnf) | (conv => whnf)) | ((with_reducible first | refine g0 (g := 132) ?_ | show Exists _); refine ⟨_, v_isNaN .., rfl, ?_⟩; rotate_right; conv => whnf) | (intro h; conv => whnf))
  all_goals repeat clear hK K1
  all_goals (refine di_eq ?_; unfold p3; (repeat' split) <;> omega)
section
variable {a b : V.Term} {i : Nat}
theorem cm_op (h : ¬ p3 a.op b.op = 0) : cmpT a b = p3 a.op b.op := cmp_op h
theorem cm_w (h1 : p3 a.op b.op = 0) (h : ¬ p3 a.w b.w = 0) : cmpT a b = p3 a.w b.w := cmp_w (fun k => k h1) h
theorem cm_n (h1 : p3 a.op b.op = 0) (h2 : p3 a.w b.w = 0) (h : ¬ p3 a.n b.n = 0) : cmpT a b = p3 a.n b.n := cmp_n (fun k => k h1) (fun k => k h2) h
theorem cm_nm (h1 : p3 a.op b.op = 0) (h2 : p3 a.w b.w = 0) (h3 : p3 a.n b.n = 0) (h : ¬ n8 a.name b.name = 0) : cmpT a b = n8 a.name b.name := cmp_nm (fun k => k h1) (fun k => k h2) (fun k => k h3) h
theorem cmI_0 (h1 : p3 a.op b.op = 0) (h2 : p3 a.w b.w = 0) (h3 : p3 a.n b.n = 0) (h4 : n8 a.name b.name = 0) : CmpI a b 0 := cmpI_0 (fun k => k h1) (fun k => k h2) (fun k => k h3) (fun k => k h4)
theorem cmI_s (h : CmpI a b i) (h1 : (i : Int) < a.kids.length) (h2 : (i : Int) < b.kids.length) (h0 : cmpT (kE a.kids i) (kE b.kids i) = 0) : CmpI a b (i + 1) := by
  rw [rF, rF] at h0
  exact cmpI_s h h1 h2 (fun k => k h0)
theorem cmI_f (h : CmpI a b i) (h1 : (i : Int) < a.kids.length) (h2 : (i : Int) < b.kids.length) (h0 : ¬ cmpT (kE a.kids i) (kE b.kids i) = 0) : cmpT a b = cmpT (kE a.kids i) (kE b.kids i) := by
  rw [rF, rF] at *
  exact cmpI_f h h1 h2 h0
theorem cmI_e1 (h : CmpI a b i) (h1 : ¬ (i : Int) < a.kids.length) : cmpT a b = p3 a.kids.length b.kids.length := yU h fun k => h1 k.1
theorem cmI_e2 (h : CmpI a b i) (h1 : ¬ (i : Int) < b.kids.length) : cmpT a b = p3 a.kids.length b.kids.length := yU h fun k => h1 k.2
end
structure IHCi (a : V.Term) : Prop where
  call : ∀ (op w n : Int) (nm : ByteArray) (ks : List V.Term) (op' w' n' : Int) (nm' : ByteArray) (ks' : List V.Term), sizeT ⟨op, w, n, nm, ks⟩ < sizeT a →
    CallsV Tryz.prog 111 [.agg [.dat (.i op), .dat (.i w), .dat (.i n), .dat (.str nm), .dat (.seq .terms ks)], .agg [.dat (.i op'), .dat (.i w'), .dat (.i n'), .dat (.str nm'), .dat (.seq .terms ks')]] (.dat (.i (cmpT ⟨op, w, n, nm, ks⟩ ⟨op', w', n', nm', ks'⟩)))
theorem ih_ci {a : V.Term} (ih : IHCi a) {op w n : Int} {nm : ByteArray} {ks : List V.Term} {op' w' n' : Int} {nm' : ByteArray} {ks' : List V.Term} (hs : sizeT ⟨op, w, n, nm, ks⟩ < sizeT a) :
    CallsV Tryz.prog 111 [.agg [.dat (.i op), .dat (.i w), .dat (.i n), .dat (.str nm), .dat (.seq .terms ks)], .agg [.dat (.i op'), .dat (.i w'), .dat (.i n'), .dat (.str nm'), .dat (.seq .terms ks')]] (.dat (.i (cmpT ⟨op, w, n, nm, ks⟩ ⟨op', w', n', nm', ks'⟩))) := ih.call op w n nm ks op' w' n' nm' ks' hs
theorem qaa (a b : V.Term) (ih : IHCi a) : CallsV Tryz.prog 111 [.agg [.dat (.i a.op), .dat (.i a.w), .dat (.i a.n), .dat (.str a.name), .dat (.seq .terms a.kids)], .agg [.dat (.i b.op), .dat (.i b.w), .dat (.i b.n), .dat (.str b.name), .dat (.seq .terms b.kids)]] (.dat (.i (cmpT a b))) := by
  refine oV Tryz.func111 ⟨?_⟩
  repeat' (first | ((with_reducible refine fun (K1 : KT) hK => ?_); refine j4 ⟨?_⟩) | ((with_reducible show K1 _ _); subst hK; conv => whnf) | (with_reducible exact rfl) | refine m0 ⟨?_⟩ | ((with_reducible refine SplS.mk (fun h => ?_) (fun h => ?_)) <;> first | exact z1 | (subst h; conv => whnf) | (conv => whnf)) | refine u2 ⟨?_⟩ ⟨?_⟩ | (refine Exists.intro ({i : Nat // CmpI a b i}) (Exists.intro (fun ⟨i, hi⟩ => z7 Tryz.f111.ntmps [(2, .ptr 2 0), (3, .ptr 3 0), (9, .dat (.i i))] [(2, .box [.dat (.i a.op), .dat (.i a.w), .dat (.i a.n), .dat (.str a.name), .dat (.seq .terms a.kids)]), (3, .box [.dat (.i b.op), .dat (.i b.w), .dat (.i b.n), .dat (.str b.name), .dat (.seq .terms b.kids)])]) (Exists.intro (fun ⟨i, hi⟩ => a.kids.length - i) (Exists.intro ⟨0, ?_⟩ (And.intro (SubP.sub (σ := [(2, some 2), (3, some 3)]) ⟨⟨rfl, rfl, rfl⟩, ⟨⟨rfl, rfl⟩, ⟨rfl, rfl⟩, r0 ?_, trivial⟩, ⟨⟨j0 ?_, j0 ?_, j0 ?_, j0 ?_, j0 ?_, trivial⟩, ⟨j0 ?_, j0 ?_, j0 ?_, j0 ?_, j0 ?_, trivial⟩, trivial⟩⟩) (fun ⟨i, hi⟩ => ?_))))); rotate_right; conv => whnf) | (refine Exists.intro (⟨i + 1, ?_⟩ : {i : Nat // CmpI a b i}) (And.intro ?_ (SubP.sub (σ := [(2, some 2), (3, some 3)]) ⟨⟨rfl, rfl, rfl⟩, ⟨⟨rfl, rfl⟩, ⟨rfl, rfl⟩, r0 ?_, trivial⟩, ⟨⟨j0 ?_, j0 ?_, j0 ?_, j0 ?_, j0 ?_, trivial⟩, ⟨j0 ?_, j0 ?_, j0 ?_, j0 ?_, j0 ?_, trivial⟩, trivial⟩⟩))) | ((with_reducible first | refine g0 (g := 126) ?_ | show Exists _); refine ⟨_, bW .., rfl, ?_⟩; rotate_right; conv => whnf) | ((with_reducible first | refine g0 (g := 127) ?_ | show Exists _); refine ⟨_, aW .., rfl, ?_⟩; rotate_right; conv => whnf) | ((with_reducible first | refine g0 (g := 111) ?_ | show Exists _); refine ⟨_, ih_ci (ih := by assumption) (hs := ?_) .., rfl, ?_⟩; rotate_right; conv => whnf) | (intro h; conv => whnf))
  all_goals repeat clear hK K1
  all_goals first | exact di_eq (rfl : ((0 : Nat) : Int) = 0) | (refine di_eq ?_; rw [u4 omG omG]; done) | (have hm : maxLen = 9223372036854775807 := rfl; refine di_eq ?_; rw [u4 omG omG]; omega) | (rw [V.Term.eta]; exact yP asmR) | exact cmI_0 asmR asmR asmR asmR | exact cmI_s hi asmR asmR asmR | (refine di_eq ?_; first | exact cmI_f hi asmR asmR asmR | exact cmI_e1 hi asmR | exact cmI_e2 hi asmR | exact cm_op asmR | exact cm_w asmR asmR | exact cm_n asmR asmR asmR | exact cm_nm asmR asmR asmR asmR) | omega | (dsimp only; omega) | skip
theorem pA (op w n : Int) (nm : ByteArray) (ks : List V.Term) (op' w' n' : Int) (nm' : ByteArray) (ks' : List V.Term) :
    CallsV Tryz.prog 111 [.agg [.dat (.i op), .dat (.i w), .dat (.i n), .dat (.str nm), .dat (.seq .terms ks)], .agg [.dat (.i op'), .dat (.i w'), .dat (.i n'), .dat (.str nm'), .dat (.seq .terms ks')]] (.dat (.i (cmpT ⟨op, w, n, nm, ks⟩ ⟨op', w', n', nm', ks'⟩))) := by
  have key : ∀ (k : Nat) (a b : V.Term), sizeT a < k →
      CallsV Tryz.prog 111 [.agg [.dat (.i a.op), .dat (.i a.w), .dat (.i a.n), .dat (.str a.name), .dat (.seq .terms a.kids)], .agg [.dat (.i b.op), .dat (.i b.w), .dat (.i b.n), .dat (.str b.name), .dat (.seq .terms b.kids)]] (.dat (.i (cmpT a b))) := by
    intro k
    induction k with
    | zero => intro t _ h; omega
    | succ k ih =>
      intro a b h
      exact qaa a b ⟨fun op w n nm ks op' w' n' nm' ks' hs => ih ⟨op, w, n, nm, ks⟩ ⟨op', w', n', nm', ks'⟩ omG⟩
  exact key _ ⟨op, w, n, nm, ks⟩ ⟨op', w', n', nm', ks'⟩ (Nat.lt_succ_self _)
section
variable {a b : V.Term} {i j : Nat}
abbrev s3 (a b : V.Term) : List Int := [p3 a.op b.op, p3 a.w b.w, p3 a.n b.n]
end
theorem i_sameTerm (op w n : Int) (nm : ByteArray) (ks : List V.Term) (op' w' n' : Int) (nm' : ByteArray) (ks' : List V.Term) : CallsV Tryz.prog 108 [.agg [.dat (.i op), .dat (.i w), .dat (.i n), .dat (.str nm), .dat (.seq .terms ks)], .agg [.dat (.i op'), .dat (.i w'), .dat (.i n'), .dat (.str nm'), .dat (.seq .terms ks')]] (.dat (.bool (cmpT ⟨op, w, n, nm, ks⟩ ⟨op', w', n', nm', ks'⟩ == 0))) := by
  refine oV Tryz.func108 ⟨?_⟩
  repeat' (first | ((with_reducible refine fun (K1 : KT) hK => ?_); refine j4 ⟨?_⟩) | ((with_reducible show K1 _ _); subst hK; conv => whnf) | (with_reducible exact rfl) | refine m0 ⟨?_⟩ | ((with_reducible refine SplS.mk (fun h => ?_) (fun h => ?_)) <;> first | exact z1 | (subst h; conv => whnf) | (conv => whnf)) | ((with_reducible first | refine g0 (g := 111) ?_ | show Exists _); refine ⟨_, pA .., rfl, ?_⟩; rotate_right; conv => whnf) | (intro h; conv => whnf))
  all_goals repeat clear hK K1
  all_goals first | rfl | skip
end Vg
