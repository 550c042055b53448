/- Terms are checked: variables and all, by the reference. Condition: names are no longer than a law lets through. -/
import Derived.Test.YtjlffejifadkiaaGreatDoorTermN
import Derived.Test.YtjlffejifadkiaaGreatDoorRet
import Derived.Test.YtjlffejifadkiaaGreatDoorBase
namespace Vg
open Go Go.Proofs
set_option maxRecDepth 100000
set_option maxHeartbeats 40000000
section
variable {t : V.Term} {l : List V.Val} {k : Nat}
theorem vs_hit (ho : t.op = 22) (hk : k ≤ l.length ∧ (l.take k).all (fun v => y5 v.name t.name) = true) (h : (k : Int) < l.length) (hl : Op.bytesLess (l.getD (k : Int).toNat K.vals.dflt).name.toList t.name.toList = false) (he : ((l.getD (k : Int).toNat K.vals.dflt).name.toList == t.name.toList) = true) :
    varL t l = (l, (l.getD (k : Int).toNat K.vals.dflt).w == t.w) := by
  rw [jP ho]
  simp only [Int.toNat_natCast] at *
  rw [qg0 hk h hl (uJ he)]
  congr 1
theorem vs_mid (ho : t.op = 22) (hk : k ≤ l.length ∧ (l.take k).all (fun v => y5 v.name t.name) = true) (h : (k : Int) < l.length) (hl : Op.bytesLess (l.getD (k : Int).toNat K.vals.dflt).name.toList t.name.toList = false) (he : ((l.getD (k : Int).toNat K.vals.dflt).name.toList == t.name.toList) = false) :
    varL t l = (((([] : List V.Val) ++ l.take k) ++ [⟨t.name, t.w, 0⟩]) ++ l.drop k, true) := by
  rw [jP ho]
  simp only [Int.toNat_natCast] at *
  rw [ins_mid hk h hl (tJ he)]
  simp
theorem vs_end (ho : t.op = 22) (hk : k ≤ l.length ∧ (l.take k).all (fun v => y5 v.name t.name) = true) (h : ¬ (k : Int) < l.length) : varL t l = (((([] : List V.Val) ++ l.take k) ++ [⟨t.name, t.w, 0⟩]) ++ l.drop k, true) := by
  rw [jP ho, ins_end hk h]
  simp
theorem vs_s (hk : k ≤ l.length ∧ (l.take k).all (fun v => y5 v.name t.name) = true) (h : (k : Int) < l.length) (hl : Op.bytesLess (l.getD (k : Int).toNat K.vals.dflt).name.toList t.name.toList = true) : ((l.take (k + 1)).all fun v => y5 v.name t.name) = true := by
  simp only [Int.toNat_natCast] at *
  exact (ins_s hk h hl).2
end
theorem bnd_v {n b : Nat} (hb : b = 32) (h : n ≤ 1048576) : n * b ≤ 140737488355328 := by subst hb; omega
theorem bnd_m {n : Nat} (h : n ≤ 1048576) : n ≤ maxLen := by
  have hm : maxLen = 9223372036854775807 := rfl
  omega
structure IHVr (t : V.Term) : Prop where
  call : ∀ (op w n : Int) (nm : ByteArray) (ks : List V.Term) (l : List V.Val), sizeT ⟨op, w, n, nm, ks⟩ < sizeT t → l.length + sizeT ⟨op, w, n, nm, ks⟩ ≤ 1048576 →
    CallsV Tryz.prog 163 [.agg [.dat (.i op), .dat (.i w), .dat (.i n), .dat (.str nm), .dat (.seq .terms ks)], .dat (.seq .vals l)] (.tup [.dat (.seq .vals (varL ⟨op, w, n, nm, ks⟩ l).1), .dat (.bool (varL ⟨op, w, n, nm, ks⟩ l).2)])
theorem ih_vr {t : V.Term} (ih : IHVr t) {op w n : Int} {nm : ByteArray} {ks : List V.Term} {l : List V.Val} (hs : sizeT ⟨op, w, n, nm, ks⟩ < sizeT t) (hl : l.length + sizeT ⟨op, w, n, nm, ks⟩ ≤ 1048576) :
    CallsV Tryz.prog 163 [.agg [.dat (.i op), .dat (.i w), .dat (.i n), .dat (.str nm), .dat (.seq .terms ks)], .dat (.seq .vals l)] (.tup [.dat (.seq .vals (varL ⟨op, w, n, nm, ks⟩ l).1), .dat (.bool (varL ⟨op, w, n, nm, ks⟩ l).2)]) := ih.call op w n nm ks l hs hl
theorem qey (t : V.Term) (l : List V.Val) (ih : IHVr t) (hl : l.length + sizeT t ≤ 1048576) : CallsV Tryz.prog 163 [.agg [.dat (.i t.op), .dat (.i t.w), .dat (.i t.n), .dat (.str t.name), .dat (.seq .terms t.kids)], .dat (.seq .vals l)] (.tup [.dat (.seq .vals (varL t l).1), .dat (.bool (varL t l).2)]) := by
  refine oV Tryz.func163 ⟨?_⟩
  repeat' (first | ((with_reducible refine fun (K1 : KT) hK => ?_); refine m4 ⟨?_⟩) | ((with_reducible show K1 _ _); subst hK; conv => whnf) | (with_reducible exact rfl) | refine st0 ⟨?_⟩ | ((with_reducible refine SplS.mk (fun h => ?_) (fun h => ?_)) <;> first | exact r0 | (subst h; conv => whnf) | (conv => whnf)) | refine f1 ⟨?_⟩ ⟨?_⟩ | (refine Exists.intro ({i : Nat // VarI t l i}) (Exists.intro (fun ⟨i, hi⟩ => r4 Tryz.f163.ntmps [(1, .dat (.seq .vals (f8 t.kids l i).1)), (2, .ptr 2 0), (73, .dat (.seq .terms t.kids)), (74, .dat (.i t.kids.length)), (75, .dat (.i i))] [(2, .box [.dat (.i t.op), .dat (.i t.w), .dat (.i t.n), .dat (.str t.name), .dat (.seq .terms t.kids)])]) (Exists.intro (fun ⟨i, hi⟩ => t.kids.length - i) (Exists.intro ⟨0, ?_⟩ (And.intro (SubP.sub (σ := [(2, some 2)]) ⟨⟨rfl, rfl, rfl⟩, ⟨o0 ?_, ⟨rfl, rfl⟩, o0 ?_, o0 ?_, o0 ?_, trivial⟩, ⟨⟨j0 ?_, j0 ?_, j0 ?_, j0 ?_, j0 ?_, trivial⟩, trivial⟩⟩) (fun ⟨i, hi⟩ => ?_))))); rotate_right; conv => whnf) | (refine Exists.intro (⟨i + 1, ?_⟩ : {i : Nat // VarI t l i}) (And.intro ?_ (SubP.sub (σ := [(2, some 2)]) ⟨⟨rfl, rfl, rfl⟩, ⟨o0 ?_, ⟨rfl, rfl⟩, o0 ?_, o0 ?_, o0 ?_, trivial⟩, ⟨⟨j0 ?_, j0 ?_, j0 ?_, j0 ?_, j0 ?_, trivial⟩, trivial⟩⟩))) | (refine Exists.intro ({k : Nat // k ≤ l.length ∧ (l.take k).all (fun v => y5 v.name t.name) = true}) (Exists.intro (fun ⟨k, hk⟩ => r4 Tryz.f163.ntmps [(1, .dat (.seq .vals l)), (2, .ptr 2 0), (6, .dat (.i k))] [(2, .box [.dat (.i t.op), .dat (.i t.w), .dat (.i t.n), .dat (.str t.name), .dat (.seq .terms t.kids)])]) (Exists.intro (fun ⟨k, hk⟩ => l.length - k) (Exists.intro ⟨0, ⟨Nat.zero_le _, rfl⟩⟩ (And.intro (SubP.sub (σ := [(2, some 2)]) ⟨⟨rfl, rfl, rfl⟩, ⟨o0 ?_, ⟨rfl, rfl⟩, o0 ?_, trivial⟩, ⟨⟨j0 ?_, j0 ?_, j0 ?_, j0 ?_, j0 ?_, trivial⟩, trivial⟩⟩) (fun ⟨k, hk⟩ => ?_))))); rotate_right; conv => whnf) | (refine Exists.intro (⟨k + 1, ?_⟩ : {k : Nat // k ≤ l.length ∧ (l.take k).all (fun v => y5 v.name t.name) = true}) (And.intro ?_ (SubP.sub (σ := [(2, some 2)]) ⟨⟨rfl, rfl, rfl⟩, ⟨o0 ?_, ⟨rfl, rfl⟩, o0 ?_, trivial⟩, ⟨⟨j0 ?_, j0 ?_, j0 ?_, j0 ?_, j0 ?_, trivial⟩, trivial⟩⟩))) | ((with_reducible first | refine n0 (g := 163) ?_ | show Exists _); refine ⟨_, ih_vr (ih := by assumption) (hs := ?_) (hl := ?_) .., rfl, ?_⟩; rotate_right; conv => whnf) | (intro h; conv => whnf))
  all_goals repeat clear hK K1
  all_goals first | exact True.intro | exact di_eq (rfl : ((0 : Nat) : Int) = 0) | exact vs_s hk asmR asmR | (refine di_eq ?_; rw [wrap_id omG omG]; done) | (have hm : maxLen = 9223372036854775807 := rfl; refine di_eq ?_; rw [wrap_id omG omG]; omega) | (rw [V.Term.eta]; exact aH asmR) | exact varI_0 asmR | exact congrArg (Dat.seq K.vals) (by rw [vTo_0]) | exact (lV hi asmR asmR).1 | exact congrArg (Dat.seq K.vals) (by rw [(lV hi asmR asmR).2]) | exact varI_l hi asmR hl | (have e := vs_hit (show t.op = 22 by with_reducible assumption) hk asmR asmR asmR; first | (show Dat.bool (varL t l).2 = Dat.bool _; rw [e]) | (show Dat.seq K.vals (varL t l).1 = Dat.seq K.vals _; rw [e])) | (have e := (by first | exact vs_mid (show t.op = 22 by with_reducible assumption) hk asmR asmR asmR | exact vs_end (show t.op = 22 by with_reducible assumption) hk asmR : varL t l = (((([] : List V.Val) ++ l.take k) ++ [⟨t.name, t.w, 0⟩]) ++ l.drop k, true)); first | (show Dat.bool (varL t l).2 = Dat.bool _; rw [e]) | (show Dat.seq K.vals (varL t l).1 = Dat.seq K.vals (((([] : List V.Val) ++ l.take k) ++ [⟨t.name, t.w, 0⟩]) ++ l.drop k); rw [e])) | (have e := varI_n hi asmR asmR; first | (show Dat.bool (varL t l).2 = Dat.bool _; rw [e]) | (show List.length (varL t l).1 = 0; rw [e]; rfl)) | (have e := varI_e hi asmR; first | (show Dat.bool (varL t l).2 = Dat.bool _; rw [e]) | (show Dat.seq K.vals (varL t l).1 = Dat.seq K.vals _; rw [e])) | ((first | refine bnd_v rfl ?_ | refine bnd_m ?_); have hs := fF t; have e1 : ((k : Int)).toNat = k := rfl; have e2 : (l.take k).length + (l.drop k).length = l.length := (by simp; omega); first | (show ([] : List V.Val).length + (l.take k).length ≤ _; simp only [List.length_nil]; omega) | (show (([] : List V.Val) ++ (l.take k)).length + ([⟨t.name, t.w, 0⟩] : List V.Val).length ≤ _; simp only [List.length_append, List.length_nil, List.length_cons]; omega) | (show ((([] : List V.Val) ++ (l.take k)) ++ ([⟨t.name, t.w, 0⟩] : List V.Val)).length + (l.drop k).length ≤ _; simp only [List.length_append, List.length_nil, List.length_cons]; omega)) | omega | (dsimp only; omega) | skip
theorem qez (op w n : Int) (nm : ByteArray) (ks : List V.Term) (l : List V.Val) (hl : l.length + sizeT ⟨op, w, n, nm, ks⟩ ≤ 1048576) :
    CallsV Tryz.prog 163 [.agg [.dat (.i op), .dat (.i w), .dat (.i n), .dat (.str nm), .dat (.seq .terms ks)], .dat (.seq .vals l)] (.tup [.dat (.seq .vals (varL ⟨op, w, n, nm, ks⟩ l).1), .dat (.bool (varL ⟨op, w, n, nm, ks⟩ l).2)]) := by
  have key : ∀ (k : Nat) (t : V.Term) (l : List V.Val), sizeT t < k → l.length + sizeT t ≤ 1048576 →
      CallsV Tryz.prog 163 [.agg [.dat (.i t.op), .dat (.i t.w), .dat (.i t.n), .dat (.str t.name), .dat (.seq .terms t.kids)], .dat (.seq .vals l)] (.tup [.dat (.seq .vals (varL t l).1), .dat (.bool (varL t l).2)]) := by
    intro k
    induction k with
    | zero => intro t _ h; omega
    | succ k ih =>
      intro t l h hl
      exact qey t l ⟨fun op w n nm ks l' hs hl' => ih ⟨op, w, n, nm, ks⟩ l' omG hl'⟩ hl
  exact key _ ⟨op, w, n, nm, ks⟩ l (Nat.lt_succ_self _) hl
section
variable {t : V.Term}
theorem tp_few (h : decide (fewT t 240 ≥ 0) = false) : z6 t = false := by
  rw [fT] at h
  unfold z6
  rw [h]; rfl
theorem tp_nd (h : okT t = false) : z6 t = false := by
  unfold z6
  rw [h, Bool.and_false]; rfl
theorem tp_sz (h : decide (fewT t 240 ≥ 0) = true) : sizeT t ≤ 240 := by
  rw [fT] at h
  exact of_decide_eq_true h
theorem tp_y (h : decide (fewT t 240 ≥ 0) = true) (h2 : okT t = true) : z6 t = (varL t []).2 := by
  rw [fT] at h
  unfold z6
  rw [h, h2, qd2 h2]; rfl
end
theorem aX (op w n : Int) (nm : ByteArray) (ks : List V.Term) (hn : nmT ⟨op, w, n, nm, ks⟩ = true) : CallsV Tryz.prog 144 [.agg [.dat (.i op), .dat (.i w), .dat (.i n), .dat (.str nm), .dat (.seq .terms ks)]] (.dat (.bool (z6 ⟨op, w, n, nm, ks⟩))) := by
  refine oV Tryz.func144 ⟨?_⟩
  repeat' (first | ((with_reducible refine fun (K1 : KT) hK => ?_); refine m4 ⟨?_⟩) | ((with_reducible show K1 _ _); subst hK; conv => whnf) | (with_reducible exact rfl) | refine st0 ⟨?_⟩ | ((with_reducible refine SplS.mk (fun h => ?_) (fun h => ?_)) <;> first | exact r0 | (subst h; conv => whnf) | (conv => whnf)) | refine f1 ⟨?_⟩ ⟨?_⟩ | ((with_reducible refine a6 (g := 161) ?_); refine ⟨_, _, c_few (hl := ?_) .., zV ?_⟩; rotate_right; conv => whnf) | ((with_reducible first | refine n0 (g := 162) ?_ | show Exists _); refine ⟨_, qe3 (hn := ?_) .., rfl, ?_⟩; rotate_right; conv => whnf) | ((with_reducible first | refine n0 (g := 163) ?_ | show Exists _); refine ⟨_, qez (hl := ?_) .., rfl, ?_⟩; rotate_right; conv => whnf) | (intro h; conv => whnf))
  all_goals repeat clear hK K1
  all_goals first | exact db_eq (tp_few asmR) | exact db_eq (tp_nd asmR) | exact db_eq (tp_y asmR asmR) | exact hn | decide | (have e := tp_sz (show decide (fewT ⟨op, w, n, nm, ks⟩ 240 ≥ 0) = true by with_reducible assumption); show 0 + _ ≤ 1048576; omega) | skip
theorem cb_eq : ∀ (x y : List UInt8), Lib.compareBytes x y = if Op.bytesLess x y = true then -1 else if Op.bytesLess y x = true then 1 else 0
  | [], [] => by simp [Lib.compareBytes, Op.bytesLess]
  | [], _ :: _ => by simp [Lib.compareBytes, Op.bytesLess]
  | _ :: _, [] => by simp [Lib.compareBytes, Op.bytesLess]
  | a :: x, b :: y => by
    rw [Lib.compareBytes, Op.bytesLess, Op.bytesLess, cb_eq x y]
    by_cases h1 : a < b
    · simp [h1]
    · by_cases h2 : b < a
      · have h3 : ¬ a = b := fun e => by subst e; exact absurd h2 h1
        simp [h1, h2, h3]
      · have h3 : a = b := UInt8.le_antisymm (UInt8.not_lt.1 h2) (UInt8.not_lt.1 h1)
        subst h3
        simp [h1]
theorem qd4 (a b : ByteArray) : CallsV Tryz.prog 216 [.dat (.str a), .dat (.str b)] (.dat (.i (v7 a b))) := by
  have e : v7 a b = Lib.compareBytes a.data.toList b.data.toList := by
    rw [cb_eq]
    unfold v7 y5
    rw [Lib.toList_data, Lib.toList_data]
  rw [e]
  exact compV Tryz.lays106 rfl ⟨_, Tryz.func216, rfl, rfl⟩ a b
theorem v_isNaN (n : Int) : CallsV Tryz.prog 218 [.dat (.i n)] (.dat (.bool false)) := by
  refine oV Tryz.func218 ⟨?_⟩
  repeat' (first | ((with_reducible refine fun (K1 : KT) hK => ?_); refine m4 ⟨?_⟩) | ((with_reducible show K1 _ _); subst hK; conv => whnf) | (with_reducible exact rfl) | refine st0 ⟨?_⟩ | ((with_reducible refine SplS.mk (fun h => ?_) (fun h => ?_)) <;> first | exact r0 | (subst h; conv => whnf) | (conv => whnf)) | (intro h; conv => whnf))
  all_goals repeat clear hK K1
  all_goals first | rfl | (exact db_eq (by simp)) | skip
theorem qd8 (a b : Int) : CallsV Tryz.prog 215 [.dat (.i a), .dat (.i b)] (.dat (.i (q4 a b))) := by
  refine oV Tryz.func215 ⟨?_⟩
  repeat' (first | ((with_reducible refine fun (K1 : KT) hK => ?_); refine m4 ⟨?_⟩) | ((with_reducible show K1 _ _); subst hK; conv => whnf) | (with_reducible exact rfl) | refine st0 ⟨?_⟩ | ((with_reducible refine SplS.mk (fun h => ?_) (fun h => ?_)) <;> first | exact r0 | (subst h; conv => whnf) | (conv => whnf)) | ((with_reducible first | refine n0 (g := 218) ?_ | show Exists _); refine ⟨_, v_isNaN .., rfl, ?_⟩; rotate_right; conv => whnf) | (intro h; conv => whnf))
  all_goals repeat clear hK K1
  all_goals (refine di_eq ?_; unfold q4; (repeat' split) <;> omega)
theorem qe1 (a b : Int) : CallsV Tryz.prog 211 [.dat (.i a), .dat (.i b)] (.dat (.i (q4 a b))) := by
  refine oV Tryz.func211 ⟨?_⟩
  repeat' (first | ((with_reducible refine fun (K1 : KT) hK => ?_); refine m4 ⟨?_⟩) | ((with_reducible show K1 _ _); subst hK; conv => whnf) | (with_reducible exact rfl) | refine st0 ⟨?_⟩ | ((with_reducible refine SplS.mk (fun h => ?_) (fun h => ?_)) <;> first | exact r0 | (subst h; conv => whnf) | (conv => whnf)) | (intro h; conv => whnf))
  all_goals repeat clear hK K1
  all_goals (refine di_eq ?_; unfold q4; (repeat' split) <;> omega)
section
variable {a b : V.Term} {i : Nat}
theorem cm_op (h : ¬ q4 a.op b.op = 0) : cmpT a b = q4 a.op b.op := cmp_op h
theorem cm_w (h1 : q4 a.op b.op = 0) (h : ¬ q4 a.w b.w = 0) : cmpT a b = q4 a.w b.w := cmp_w (fun k => k h1) h
theorem cm_n (h1 : q4 a.op b.op = 0) (h2 : q4 a.w b.w = 0) (h : ¬ q4 a.n b.n = 0) : cmpT a b = q4 a.n b.n := cmp_n (fun k => k h1) (fun k => k h2) h
theorem sT (h1 : q4 a.op b.op = 0) (h2 : q4 a.w b.w = 0) (h3 : q4 a.n b.n = 0) (h : ¬ v7 a.name b.name = 0) : cmpT a b = v7 a.name b.name := cmp_nm (fun k => k h1) (fun k => k h2) (fun k => k h3) h
theorem cmI_0 (h1 : q4 a.op b.op = 0) (h2 : q4 a.w b.w = 0) (h3 : q4 a.n b.n = 0) (h4 : v7 a.name b.name = 0) : CmpI a b 0 := cmpI_0 (fun k => k h1) (fun k => k h2) (fun k => k h3) (fun k => k h4)
theorem cmI_s (h : CmpI a b i) (h1 : (i : Int) < a.kids.length) (h2 : (i : Int) < b.kids.length) (h0 : cmpT (kE a.kids i) (kE b.kids i) = 0) : CmpI a b (i + 1) := by
  rw [kC, kC] at h0
  exact cmpI_s h h1 h2 (fun k => k h0)
theorem cmI_f (h : CmpI a b i) (h1 : (i : Int) < a.kids.length) (h2 : (i : Int) < b.kids.length) (h0 : ¬ cmpT (kE a.kids i) (kE b.kids i) = 0) : cmpT a b = cmpT (kE a.kids i) (kE b.kids i) := by
  rw [kC, kC] at *
  exact cmpI_f h h1 h2 h0
theorem qc0 (h : CmpI a b i) (h1 : ¬ (i : Int) < a.kids.length) : cmpT a b = q4 a.kids.length b.kids.length := qcy h fun k => h1 k.1
theorem qcz (h : CmpI a b i) (h1 : ¬ (i : Int) < b.kids.length) : cmpT a b = q4 a.kids.length b.kids.length := qcy h fun k => h1 k.2
theorem cmI_e3 (h : CmpI a b i) (h1 : (i : Int) < a.kids.length) (h2 : (i : Int) = b.kids.length) : cmpT a b = 1 := by
  rw [qcz h omG]
  unfold q4
  rw [if_neg omG, if_pos omG]
end
structure IHCi (a : V.Term) : Prop where
  call : ∀ (op w n : Int) (nm : ByteArray) (ks : List V.Term) (op' w' n' : Int) (nm' : ByteArray) (ks' : List V.Term), sizeT ⟨op, w, n, nm, ks⟩ < sizeT a →
    CallsV Tryz.prog 209 [.agg [.dat (.i op), .dat (.i w), .dat (.i n), .dat (.str nm), .dat (.seq .terms ks)], .agg [.dat (.i op'), .dat (.i w'), .dat (.i n'), .dat (.str nm'), .dat (.seq .terms ks')]] (.dat (.i (cmpT ⟨op, w, n, nm, ks⟩ ⟨op', w', n', nm', ks'⟩)))
theorem ih_ci {a : V.Term} (ih : IHCi a) {op w n : Int} {nm : ByteArray} {ks : List V.Term} {op' w' n' : Int} {nm' : ByteArray} {ks' : List V.Term} (hs : sizeT ⟨op, w, n, nm, ks⟩ < sizeT a) :
    CallsV Tryz.prog 209 [.agg [.dat (.i op), .dat (.i w), .dat (.i n), .dat (.str nm), .dat (.seq .terms ks)], .agg [.dat (.i op'), .dat (.i w'), .dat (.i n'), .dat (.str nm'), .dat (.seq .terms ks')]] (.dat (.i (cmpT ⟨op, w, n, nm, ks⟩ ⟨op', w', n', nm', ks'⟩))) := ih.call op w n nm ks op' w' n' nm' ks' hs
theorem qhq (a b : V.Term) (ih : IHCi a) : CallsV Tryz.prog 209 [.agg [.dat (.i a.op), .dat (.i a.w), .dat (.i a.n), .dat (.str a.name), .dat (.seq .terms a.kids)], .agg [.dat (.i b.op), .dat (.i b.w), .dat (.i b.n), .dat (.str b.name), .dat (.seq .terms b.kids)]] (.dat (.i (cmpT a b))) := by
  refine oV Tryz.func209 ⟨?_⟩
  repeat' (first | ((with_reducible refine fun (K1 : KT) hK => ?_); refine m4 ⟨?_⟩) | ((with_reducible show K1 _ _); subst hK; conv => whnf) | (with_reducible exact rfl) | refine st0 ⟨?_⟩ | ((with_reducible refine SplS.mk (fun h => ?_) (fun h => ?_)) <;> first | exact r0 | (subst h; conv => whnf) | (conv => whnf)) | refine f1 ⟨?_⟩ ⟨?_⟩ | (refine Exists.intro ({i : Nat // CmpI a b i}) (Exists.intro (fun ⟨i, hi⟩ => r4 Tryz.f209.ntmps [(2, .ptr 2 0), (3, .ptr 3 0), (9, .dat (.i i))] [(2, .box [.dat (.i a.op), .dat (.i a.w), .dat (.i a.n), .dat (.str a.name), .dat (.seq .terms a.kids)]), (3, .box [.dat (.i b.op), .dat (.i b.w), .dat (.i b.n), .dat (.str b.name), .dat (.seq .terms b.kids)])]) (Exists.intro (fun ⟨i, hi⟩ => a.kids.length - i) (Exists.intro ⟨0, ?_⟩ (And.intro (SubP.sub (σ := [(2, some 2), (3, some 3)]) ⟨⟨rfl, rfl, rfl⟩, ⟨⟨rfl, rfl⟩, ⟨rfl, rfl⟩, o0 ?_, trivial⟩, ⟨⟨j0 ?_, j0 ?_, j0 ?_, j0 ?_, j0 ?_, trivial⟩, ⟨j0 ?_, j0 ?_, j0 ?_, j0 ?_, j0 ?_, trivial⟩, trivial⟩⟩) (fun ⟨i, hi⟩ => ?_))))); rotate_right; conv => whnf) | (refine Exists.intro (⟨i + 1, ?_⟩ : {i : Nat // CmpI a b i}) (And.intro ?_ (SubP.sub (σ := [(2, some 2), (3, some 3)]) ⟨⟨rfl, rfl, rfl⟩, ⟨⟨rfl, rfl⟩, ⟨rfl, rfl⟩, o0 ?_, trivial⟩, ⟨⟨j0 ?_, j0 ?_, j0 ?_, j0 ?_, j0 ?_, trivial⟩, ⟨j0 ?_, j0 ?_, j0 ?_, j0 ?_, j0 ?_, trivial⟩, trivial⟩⟩))) | ((with_reducible first | refine n0 (g := 215) ?_ | show Exists _); refine ⟨_, qd8 .., rfl, ?_⟩; rotate_right; conv => whnf) | ((with_reducible first | refine n0 (g := 216) ?_ | show Exists _); refine ⟨_, qd4 .., rfl, ?_⟩; rotate_right; conv => whnf) | ((with_reducible first | refine n0 (g := 209) ?_ | show Exists _); refine ⟨_, ih_ci (ih := by assumption) (hs := ?_) .., rfl, ?_⟩; rotate_right; conv => whnf) | (intro h; conv => whnf))
  all_goals repeat clear hK K1
  all_goals first | exact di_eq (rfl : ((0 : Nat) : Int) = 0) | (refine di_eq ?_; rw [wrap_id omG omG]; done) | (have hm : maxLen = 9223372036854775807 := rfl; refine di_eq ?_; rw [wrap_id omG omG]; omega) | (rw [V.Term.eta]; exact aH asmR) | exact cmI_0 asmR asmR asmR asmR | exact cmI_s hi asmR asmR asmR | (refine di_eq ?_; first | exact cmI_f hi asmR asmR asmR | exact qc0 hi asmR | exact qcz hi asmR | exact cm_op asmR | exact cm_w asmR asmR | exact cm_n asmR asmR asmR | exact sT asmR asmR asmR asmR) | omega | (dsimp only; omega) | skip
theorem mC (op w n : Int) (nm : ByteArray) (ks : List V.Term) (op' w' n' : Int) (nm' : ByteArray) (ks' : List V.Term) :
    CallsV Tryz.prog 209 [.agg [.dat (.i op), .dat (.i w), .dat (.i n), .dat (.str nm), .dat (.seq .terms ks)], .agg [.dat (.i op'), .dat (.i w'), .dat (.i n'), .dat (.str nm'), .dat (.seq .terms ks')]] (.dat (.i (cmpT ⟨op, w, n, nm, ks⟩ ⟨op', w', n', nm', ks'⟩))) := by
  have key : ∀ (k : Nat) (a b : V.Term), sizeT a < k →
      CallsV Tryz.prog 209 [.agg [.dat (.i a.op), .dat (.i a.w), .dat (.i a.n), .dat (.str a.name), .dat (.seq .terms a.kids)], .agg [.dat (.i b.op), .dat (.i b.w), .dat (.i b.n), .dat (.str b.name), .dat (.seq .terms b.kids)]] (.dat (.i (cmpT a b))) := by
    intro k
    induction k with
    | zero => intro t _ h; omega
    | succ k ih =>
      intro a b h
      exact qhq a b ⟨fun op w n nm ks op' w' n' nm' ks' hs => ih ⟨op, w, n, nm, ks⟩ ⟨op', w', n', nm', ks'⟩ omG⟩
  exact key _ ⟨op, w, n, nm, ks⟩ ⟨op', w', n', nm', ks'⟩ (Nat.lt_succ_self _)
structure IHCs (a : V.Term) : Prop where
  call : ∀ (op w n : Int) (nm : ByteArray) (ks : List V.Term) (op' w' n' : Int) (nm' : ByteArray) (ks' : List V.Term), sizeT ⟨op, w, n, nm, ks⟩ < sizeT a →
    CallsV Tryz.prog 190 [.agg [.dat (.i op), .dat (.i w), .dat (.i n), .dat (.str nm), .dat (.seq .terms ks)], .agg [.dat (.i op'), .dat (.i w'), .dat (.i n'), .dat (.str nm'), .dat (.seq .terms ks')]] (.dat (.i (cmpT ⟨op, w, n, nm, ks⟩ ⟨op', w', n', nm', ks'⟩)))
theorem ih_cs {a : V.Term} (ih : IHCs a) {op w n : Int} {nm : ByteArray} {ks : List V.Term} {op' w' n' : Int} {nm' : ByteArray} {ks' : List V.Term} (hs : sizeT ⟨op, w, n, nm, ks⟩ < sizeT a) :
    CallsV Tryz.prog 190 [.agg [.dat (.i op), .dat (.i w), .dat (.i n), .dat (.str nm), .dat (.seq .terms ks)], .agg [.dat (.i op'), .dat (.i w'), .dat (.i n'), .dat (.str nm'), .dat (.seq .terms ks')]] (.dat (.i (cmpT ⟨op, w, n, nm, ks⟩ ⟨op', w', n', nm', ks'⟩))) := ih.call op w n nm ks op' w' n' nm' ks' hs
structure Ord3 (a b : V.Term) (j : Nat) : Prop where
  le : j ≤ 3
  o : 0 < j → q4 a.op b.op = 0
  w : 1 < j → q4 a.w b.w = 0
  n : 2 < j → q4 a.n b.n = 0
theorem ord3_0 (a b : V.Term) : Ord3 a b 0 := ⟨by omega, by omega, by omega, by omega⟩
section
variable {a b : V.Term} {i j : Nat}
abbrev s3 (a b : V.Term) : List Int := [q4 a.op b.op, q4 a.w b.w, q4 a.n b.n]
theorem ord3_s (h : Ord3 a b j) (hj : (j : Int) < 3) (h0 : (s3 a b).getD (j : Int).toNat K.ints.dflt = 0) : Ord3 a b (j + 1) := by
  have : j = 0 ∨ j = 1 ∨ j = 2 := by omega
  rcases this with rfl | rfl | rfl
  · exact ⟨by omega, fun _ => h0, by omega, by omega⟩
  · exact ⟨by omega, fun _ => h.o omG, fun _ => h0, by omega⟩
  · exact ⟨by omega, fun _ => h.o omG, fun _ => h.w omG, fun _ => h0⟩
theorem ord3_f (h : Ord3 a b j) (hj : (j : Int) < 3) (h0 : ¬ (s3 a b).getD (j : Int).toNat K.ints.dflt = 0) : cmpT a b = (s3 a b).getD (j : Int).toNat K.ints.dflt := by
  have : j = 0 ∨ j = 1 ∨ j = 2 := by omega
  rcases this with rfl | rfl | rfl
  · exact cm_op h0
  · exact cm_w (h.o omG) h0
  · exact cm_n (h.o omG) (h.w omG) h0
theorem sc_same (h : (a.name.toList == b.name.toList) = true) : v7 a.name b.name = 0 := by rw [uJ h, qeh]
theorem cm_lt (h : Ord3 a b j) (hj : ¬ (j : Int) < 3) (h1 : Op.bytesLess a.name.toList b.name.toList = true) : cmpT a b = -1 := by
  have e := scmp_lt h1
  rw [sT (h.o omG) (h.w omG) (h.n omG) (by rw [e]; decide), e]
theorem cm_gt (h : Ord3 a b j) (hj : ¬ (j : Int) < 3) (hn : (a.name.toList == b.name.toList) = false) (h1 : Op.bytesLess a.name.toList b.name.toList = false) : cmpT a b = 1 := by
  have e := scmp_gt (tJ hn) h1
  rw [sT (h.o omG) (h.w omG) (h.n omG) (by rw [e]; decide), e]
theorem cmI_00 (h : Ord3 a b j) (hj : ¬ (j : Int) < 3) (hn : (a.name.toList == b.name.toList) = true) : CmpI a b 0 := cmI_0 (h.o omG) (h.w omG) (h.n omG) (sc_same hn)
theorem tT (h : CmpI a b i) (h2 : ¬ (i : Int) = b.kids.length) : (i : Int) < b.kids.length := by
  have := h.lb
  omega
end
theorem qfl (a b : V.Term) (ih : IHCs a) : CallsV Tryz.prog 190 [.agg [.dat (.i a.op), .dat (.i a.w), .dat (.i a.n), .dat (.str a.name), .dat (.seq .terms a.kids)], .agg [.dat (.i b.op), .dat (.i b.w), .dat (.i b.n), .dat (.str b.name), .dat (.seq .terms b.kids)]] (.dat (.i (cmpT a b))) := by
  refine oV Tryz.func190 ⟨?_⟩
  repeat' (first | ((with_reducible refine fun (K1 : KT) hK => ?_); refine m4 ⟨?_⟩) | ((with_reducible show K1 _ _); subst hK; conv => whnf) | (with_reducible exact rfl) | refine st0 ⟨?_⟩ | ((with_reducible refine SplS.mk (fun h => ?_) (fun h => ?_)) <;> first | exact r0 | (subst h; conv => whnf) | (conv => whnf)) | refine f1 ⟨?_⟩ ⟨?_⟩ | (refine Exists.intro ({i : Nat // CmpI a b i}) (Exists.intro (fun ⟨i, hi⟩ => r4 Tryz.f190.ntmps [(3, .ptr 3 0), (46, .dat (.seq .terms a.kids)), (47, .dat (.i a.kids.length)), (48, .dat (.i i)), (2, .ptr 2 0)] [(2, .box [.dat (.i a.op), .dat (.i a.w), .dat (.i a.n), .dat (.str a.name), .dat (.seq .terms a.kids)]), (3, .box [.dat (.i b.op), .dat (.i b.w), .dat (.i b.n), .dat (.str b.name), .dat (.seq .terms b.kids)])]) (Exists.intro (fun ⟨i, hi⟩ => a.kids.length - i) (Exists.intro ⟨0, ?_⟩ (And.intro (SubP.sub (σ := [(2, some 2), (3, some 3)]) ⟨⟨rfl, rfl, rfl⟩, ⟨⟨rfl, rfl⟩, o0 ?_, o0 ?_, o0 ?_, ⟨rfl, rfl⟩, trivial⟩, ⟨⟨j0 ?_, j0 ?_, j0 ?_, j0 ?_, j0 ?_, trivial⟩, ⟨j0 ?_, j0 ?_, j0 ?_, j0 ?_, j0 ?_, trivial⟩, trivial⟩⟩) (fun ⟨i, hi⟩ => ?_))))); rotate_right; conv => whnf) | (refine Exists.intro (⟨i + 1, ?_⟩ : {i : Nat // CmpI a b i}) (And.intro ?_ (SubP.sub (σ := [(2, some 2), (3, some 3)]) ⟨⟨rfl, rfl, rfl⟩, ⟨⟨rfl, rfl⟩, o0 ?_, o0 ?_, o0 ?_, ⟨rfl, rfl⟩, trivial⟩, ⟨⟨j0 ?_, j0 ?_, j0 ?_, j0 ?_, j0 ?_, trivial⟩, ⟨j0 ?_, j0 ?_, j0 ?_, j0 ?_, j0 ?_, trivial⟩, trivial⟩⟩))) | (refine Exists.intro ({j : Nat // Ord3 a b j}) (Exists.intro (fun ⟨j, hj⟩ => r4 Tryz.f190.ntmps [(2, .ptr 2 0), (3, .ptr 3 0), (25, .row 25), (26, .dat (.i 3)), (27, .dat (.i j))] [(2, .box [.dat (.i a.op), .dat (.i a.w), .dat (.i a.n), .dat (.str a.name), .dat (.seq .terms a.kids)]), (3, .box [.dat (.i b.op), .dat (.i b.w), .dat (.i b.n), .dat (.str b.name), .dat (.seq .terms b.kids)]), (25, .row 3 .ints (s3 a b) false)]) (Exists.intro (fun ⟨j, hj⟩ => 3 - j) (Exists.intro ⟨0, ord3_0 a b⟩ (And.intro (SubP.sub (σ := [(2, some 2), (3, some 3), (25, some 25)]) ⟨⟨rfl, rfl, rfl⟩, ⟨⟨rfl, rfl⟩, ⟨rfl, rfl⟩, rfl, o0 ?_, o0 ?_, trivial⟩, ⟨⟨j0 ?_, j0 ?_, j0 ?_, j0 ?_, j0 ?_, trivial⟩, ⟨j0 ?_, j0 ?_, j0 ?_, j0 ?_, j0 ?_, trivial⟩, ⟨⟨rfl, rfl⟩, ?_⟩, trivial⟩⟩) (fun ⟨j, hj⟩ => ?_))))); rotate_right; conv => whnf) | (refine Exists.intro (⟨j + 1, ?_⟩ : {j : Nat // Ord3 a b j}) (And.intro ?_ (SubP.sub (σ := [(2, some 2), (3, some 3), (25, some 25)]) ⟨⟨rfl, rfl, rfl⟩, ⟨⟨rfl, rfl⟩, ⟨rfl, rfl⟩, rfl, o0 ?_, o0 ?_, trivial⟩, ⟨⟨j0 ?_, j0 ?_, j0 ?_, j0 ?_, j0 ?_, trivial⟩, ⟨j0 ?_, j0 ?_, j0 ?_, j0 ?_, j0 ?_, trivial⟩, ⟨⟨rfl, rfl⟩, ?_⟩, trivial⟩⟩))) | ((with_reducible first | refine n0 (g := 211) ?_ | show Exists _); refine ⟨_, qe1 .., rfl, ?_⟩; rotate_right; conv => whnf) | ((with_reducible first | refine n0 (g := 190) ?_ | show Exists _); refine ⟨_, ih_cs (ih := by assumption) (hs := ?_) .., rfl, ?_⟩; rotate_right; conv => whnf) | (intro h; conv => whnf))
  all_goals repeat clear hK K1
  all_goals first | exact di_eq (rfl : ((0 : Nat) : Int) = 0) | (refine di_eq ?_; rw [wrap_id omG omG]; done) | (have hm : maxLen = 9223372036854775807 := rfl; refine di_eq ?_; rw [wrap_id omG omG]; omega) | (rw [V.Term.eta]; exact aH asmR) | exact cmI_00 hj asmR asmR | exact ord3_s hj asmR asmR | exact cmI_s hi asmR (tT hi asmR) asmR | exact tT hi asmR | exact di_eq (rfl : (3 : Int) = ((3 : Nat) : Int)) | (show (j : Int).toNat < 3; omega) | (refine di_eq ?_; first | exact ord3_f hj asmR asmR | exact cmI_f hi asmR (tT hi asmR) asmR | exact qc0 hi asmR | exact cmI_e3 hi asmR asmR | exact cm_lt hj asmR asmR | exact cm_gt hj asmR asmR asmR) | omega | (dsimp only; omega) | skip
theorem fC (op w n : Int) (nm : ByteArray) (ks : List V.Term) (op' w' n' : Int) (nm' : ByteArray) (ks' : List V.Term) :
    CallsV Tryz.prog 190 [.agg [.dat (.i op), .dat (.i w), .dat (.i n), .dat (.str nm), .dat (.seq .terms ks)], .agg [.dat (.i op'), .dat (.i w'), .dat (.i n'), .dat (.str nm'), .dat (.seq .terms ks')]] (.dat (.i (cmpT ⟨op, w, n, nm, ks⟩ ⟨op', w', n', nm', ks'⟩))) := by
  have key : ∀ (k : Nat) (a b : V.Term), sizeT a < k →
      CallsV Tryz.prog 190 [.agg [.dat (.i a.op), .dat (.i a.w), .dat (.i a.n), .dat (.str a.name), .dat (.seq .terms a.kids)], .agg [.dat (.i b.op), .dat (.i b.w), .dat (.i b.n), .dat (.str b.name), .dat (.seq .terms b.kids)]] (.dat (.i (cmpT a b))) := by
    intro k
    induction k with
    | zero => intro t _ h; omega
    | succ k ih =>
      intro a b h
      exact qfl a b ⟨fun op w n nm ks op' w' n' nm' ks' hs => ih ⟨op, w, n, nm, ks⟩ ⟨op', w', n', nm', ks'⟩ omG⟩
  exact key _ ⟨op, w, n, nm, ks⟩ ⟨op', w', n', nm', ks'⟩ (Nat.lt_succ_self _)
theorem i_sameTerm (op w n : Int) (nm : ByteArray) (ks : List V.Term) (op' w' n' : Int) (nm' : ByteArray) (ks' : List V.Term) : CallsV Tryz.prog 206 [.agg [.dat (.i op), .dat (.i w), .dat (.i n), .dat (.str nm), .dat (.seq .terms ks)], .agg [.dat (.i op'), .dat (.i w'), .dat (.i n'), .dat (.str nm'), .dat (.seq .terms ks')]] (.dat (.bool (cmpT ⟨op, w, n, nm, ks⟩ ⟨op', w', n', nm', ks'⟩ == 0))) := by
  refine oV Tryz.func206 ⟨?_⟩
  repeat' (first | ((with_reducible refine fun (K1 : KT) hK => ?_); refine m4 ⟨?_⟩) | ((with_reducible show K1 _ _); subst hK; conv => whnf) | (with_reducible exact rfl) | refine st0 ⟨?_⟩ | ((with_reducible refine SplS.mk (fun h => ?_) (fun h => ?_)) <;> first | exact r0 | (subst h; conv => whnf) | (conv => whnf)) | ((with_reducible first | refine n0 (g := 209) ?_ | show Exists _); refine ⟨_, mC .., rfl, ?_⟩; rotate_right; conv => whnf) | (intro h; conv => whnf))
  all_goals repeat clear hK K1
  all_goals first | rfl | skip
theorem i8 (op w n : Int) (nm : ByteArray) (ks : List V.Term) (op' w' n' : Int) (nm' : ByteArray) (ks' : List V.Term) : CallsV Tryz.prog 167 [.agg [.dat (.i op), .dat (.i w), .dat (.i n), .dat (.str nm), .dat (.seq .terms ks)], .agg [.dat (.i op'), .dat (.i w'), .dat (.i n'), .dat (.str nm'), .dat (.seq .terms ks')]] (.dat (.bool (cmpT ⟨op, w, n, nm, ks⟩ ⟨op', w', n', nm', ks'⟩ == 0))) := by
  refine oV Tryz.func167 ⟨?_⟩
  repeat' (first | ((with_reducible refine fun (K1 : KT) hK => ?_); refine m4 ⟨?_⟩) | ((with_reducible show K1 _ _); subst hK; conv => whnf) | (with_reducible exact rfl) | refine st0 ⟨?_⟩ | ((with_reducible refine SplS.mk (fun h => ?_) (fun h => ?_)) <;> first | exact r0 | (subst h; conv => whnf) | (conv => whnf)) | ((with_reducible first | refine n0 (g := 190) ?_ | show Exists _); refine ⟨_, fC .., rfl, ?_⟩; rotate_right; conv => whnf) | (intro h; conv => whnf))
  all_goals repeat clear hK K1
  all_goals first | rfl | skip
end Vg
