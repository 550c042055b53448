/- Terms are checked: variables and all, by the reference. Condition: names are no longer than a law lets through. -/
import Derived.Test.YtahdmongckgjcaaGreatDoorTermN
import Derived.Test.YtahdmongckgjcaaGreatDoorRet
import Derived.Test.YtahdmongckgjcaaGreatDoorBase
namespace Vg
open Go Go.Proofs
set_option maxRecDepth 100000
set_option maxHeartbeats 40000000
section
variable {t : V.Term} {l : List V.Val} {k : Nat}
theorem vs_hit (ho : t.op = 22) (hk : k ≤ l.length ∧ (l.take k).all (fun v => qca v.name t.name) = true) (h : (k : Int) < l.length) (hl : Op.bytesLess (l.getD (k : Int).toNat K.vals.dflt).name.toList t.name.toList = false) (he : ((l.getD (k : Int).toNat K.vals.dflt).name.toList == t.name.toList) = true) :
    varL t l = (l, (l.getD (k : Int).toNat K.vals.dflt).w == t.w) := by
  rw [qn2 ho]
  simp only [Int.toNat_natCast] at *
  rw [ins_same hk h hl (str_eq he)]
  congr 1
theorem vs_mid (ho : t.op = 22) (hk : k ≤ l.length ∧ (l.take k).all (fun v => qca v.name t.name) = true) (h : (k : Int) < l.length) (hl : Op.bytesLess (l.getD (k : Int).toNat K.vals.dflt).name.toList t.name.toList = false) (he : ((l.getD (k : Int).toNat K.vals.dflt).name.toList == t.name.toList) = false) :
    varL t l = (((([] : List V.Val) ++ l.take k) ++ [⟨t.name, t.w, 0⟩]) ++ l.drop k, true) := by
  rw [qn2 ho]
  simp only [Int.toNat_natCast] at *
  rw [ins_mid hk h hl (str_ne he)]
  simp
theorem vs_end (ho : t.op = 22) (hk : k ≤ l.length ∧ (l.take k).all (fun v => qca v.name t.name) = true) (h : ¬ (k : Int) < l.length) : varL t l = (((([] : List V.Val) ++ l.take k) ++ [⟨t.name, t.w, 0⟩]) ++ l.drop k, true) := by
  rw [qn2 ho, ins_end hk h]
  simp
theorem vs_s (hk : k ≤ l.length ∧ (l.take k).all (fun v => qca v.name t.name) = true) (h : (k : Int) < l.length) (hl : Op.bytesLess (l.getD (k : Int).toNat K.vals.dflt).name.toList t.name.toList = true) : ((l.take (k + 1)).all fun v => qca v.name t.name) = true := by
  simp only [Int.toNat_natCast] at *
  exact (ins_s hk h hl).2
end
theorem bnd_v {n b : Nat} (hb : b = 32) (h : n ≤ 1048576) : n * b ≤ 140737488355328 := by subst hb; omega
theorem bnd_m {n : Nat} (h : n ≤ 1048576) : n ≤ maxLen := by
  have hm : maxLen = 9223372036854775807 := rfl
  omega
structure IHVr (t : V.Term) : Prop where
  call : ∀ (op w n : Int) (nm : ByteArray) (ks : List V.Term) (l : List V.Val), sizeT ⟨op, w, n, nm, ks⟩ < sizeT t → l.length + sizeT ⟨op, w, n, nm, ks⟩ ≤ 1048576 →
    CallsV Tryz.prog 175 [.agg [.dat (.i op), .dat (.i w), .dat (.i n), .dat (.str nm), .dat (.seq .terms ks)], .dat (.seq .vals l)] (.tup [.dat (.seq .vals (varL ⟨op, w, n, nm, ks⟩ l).1), .dat (.bool (varL ⟨op, w, n, nm, ks⟩ l).2)])
theorem ih_vr {t : V.Term} (ih : IHVr t) {op w n : Int} {nm : ByteArray} {ks : List V.Term} {l : List V.Val} (hs : sizeT ⟨op, w, n, nm, ks⟩ < sizeT t) (hl : l.length + sizeT ⟨op, w, n, nm, ks⟩ ≤ 1048576) :
    CallsV Tryz.prog 175 [.agg [.dat (.i op), .dat (.i w), .dat (.i n), .dat (.str nm), .dat (.seq .terms ks)], .dat (.seq .vals l)] (.tup [.dat (.seq .vals (varL ⟨op, w, n, nm, ks⟩ l).1), .dat (.bool (varL ⟨op, w, n, nm, ks⟩ l).2)]) := ih.call op w n nm ks l hs hl
theorem s_l02Vars0 (t : V.Term) (l : List V.Val) (ih : IHVr t) (hl : l.length + sizeT t ≤ 1048576) : CallsV Tryz.prog 175 [.agg [.dat (.i t.op), .dat (.i t.w), .dat (.i t.n), .dat (.str t.name), .dat (.seq .terms t.kids)], .dat (.seq .vals l)] (.tup [.dat (.seq .vals (varL t l).1), .dat (.bool (varL t l).2)]) := by
  refine CallsV.of_awp qaf qag Tryz.func175 rfl rfl rfl ?_
  conv => whnf
  repeat' (first | ((with_reducible first | refine Alt.l ?_ | refine fun (K1 : AX → AState → Prop) hK => ?_ | (show K1 _ _; subst hK)); conv => whnf) | (with_reducible exact rfl) | ((with_reducible first | refine sp_T ?_ | refine sp_F ?_); conv => whnf) | ((with_reducible first | refine qbe (fun h => ?_) (fun h => ?_) | refine qcb (fun h => ?_) (fun h => ?_)) <;> first | contradiction | (subst h; conv => whnf) | (conv => whnf)) | ((with_reducible first | refine qbt (fun h => ?_) (fun h => ?_) | refine qdl (fun h => ?_) (fun h => ?_)) <;> first | (exact qa0 h (by with_reducible assumption)) | (exact qa0 (by with_reducible assumption) h) | (conv => whnf)) | (refine ⟨(rfl : qac _ = true), rfl, ?_⟩; conv => whnf) | (with_reducible refine qbn ?_ ?_) | (with_reducible refine qdv ?_ ?_) | (with_reducible refine qns ?_ ?_) | ((with_reducible refine qad ?_ ?_); conv => whnf) | (refine Exists.intro ({i : Nat // VarI t l i}) (Exists.intro (fun ⟨i, hi⟩ => mkS Tryz.f175.ntmps [(1, .dat (.seq .vals (vTo t.kids l i).1)), (2, .ptr 2 0), (73, .dat (.seq .terms t.kids)), (74, .dat (.i t.kids.length)), (75, .dat (.i i))] [(2, .box [.dat (.i t.op), .dat (.i t.w), .dat (.i t.n), .dat (.str t.name), .dat (.seq .terms t.kids)])]) (Exists.intro (fun ⟨i, hi⟩ => t.kids.length - i) (Exists.intro ⟨0, ?_⟩ (And.intro (SubP.sub (σ := [(2, some 2)]) ⟨⟨rfl, rfl, rfl⟩, ⟨(qab ?_), ⟨rfl, rfl⟩, (qab ?_), (qab ?_), (qab ?_), trivial⟩, ⟨⟨(qaa ?_), (qaa ?_), (qaa ?_), (qaa ?_), (qaa ?_), trivial⟩, trivial⟩⟩) (fun ⟨i, hi⟩ => ?_))))); rotate_right; conv => whnf) | (refine Exists.intro (⟨i + 1, ?_⟩ : {i : Nat // VarI t l i}) (And.intro ?_ (SubP.sub (σ := [(2, some 2)]) ⟨⟨rfl, rfl, rfl⟩, ⟨(qab ?_), ⟨rfl, rfl⟩, (qab ?_), (qab ?_), (qab ?_), trivial⟩, ⟨⟨(qaa ?_), (qaa ?_), (qaa ?_), (qaa ?_), (qaa ?_), trivial⟩, trivial⟩⟩))) | (refine Exists.intro ({k : Nat // k ≤ l.length ∧ (l.take k).all (fun v => qca v.name t.name) = true}) (Exists.intro (fun ⟨k, hk⟩ => mkS Tryz.f175.ntmps [(1, .dat (.seq .vals l)), (2, .ptr 2 0), (6, .dat (.i k))] [(2, .box [.dat (.i t.op), .dat (.i t.w), .dat (.i t.n), .dat (.str t.name), .dat (.seq .terms t.kids)])]) (Exists.intro (fun ⟨k, hk⟩ => l.length - k) (Exists.intro ⟨0, ⟨Nat.zero_le _, rfl⟩⟩ (And.intro (SubP.sub (σ := [(2, some 2)]) ⟨⟨rfl, rfl, rfl⟩, ⟨(qab ?_), ⟨rfl, rfl⟩, (qab ?_), trivial⟩, ⟨⟨(qaa ?_), (qaa ?_), (qaa ?_), (qaa ?_), (qaa ?_), trivial⟩, trivial⟩⟩) (fun ⟨k, hk⟩ => ?_))))); rotate_right; conv => whnf) | (refine Exists.intro (⟨k + 1, ?_⟩ : {k : Nat // k ≤ l.length ∧ (l.take k).all (fun v => qca v.name t.name) = true}) (And.intro ?_ (SubP.sub (σ := [(2, some 2)]) ⟨⟨rfl, rfl, rfl⟩, ⟨(qab ?_), ⟨rfl, rfl⟩, (qab ?_), trivial⟩, ⟨⟨(qaa ?_), (qaa ?_), (qaa ?_), (qaa ?_), (qaa ?_), trivial⟩, trivial⟩⟩))) | ((with_reducible refine pcI (g := 175) ?_); refine ⟨_, ih_vr (ih := by assumption) (hs := ?_) (hl := ?_) .., rfl, ?_⟩; rotate_right; conv => whnf) | (intro h; conv => whnf))
  all_goals (repeat (clear hK; clear K1))
  all_goals first | exact True.intro | exact di_eq (rfl : ((0 : Nat) : Int) = 0) | exact vs_s hk (by with_reducible assumption) (by with_reducible assumption) | (have hm : maxLen = 9223372036854775807 := rfl; refine di_eq ?_; rw [qah (by omega) (by omega)]; omega) | (rw [V.Term.eta]; exact qem (by with_reducible assumption)) | exact varI_0 (by with_reducible assumption) | exact congrArg (Dat.seq K.vals) (by rw [vTo_0]) | exact (varI_s hi (by with_reducible assumption) (by with_reducible assumption)).1 | exact congrArg (Dat.seq K.vals) (by rw [(varI_s hi (by with_reducible assumption) (by with_reducible assumption)).2]) | exact varI_l hi (by with_reducible assumption) hl | (have e := vs_hit (show t.op = 22 by with_reducible assumption) hk (by with_reducible assumption) (by with_reducible assumption) (by with_reducible assumption); first | (show Dat.bool (varL t l).2 = Dat.bool _; rw [e]) | (show Dat.seq K.vals (varL t l).1 = Dat.seq K.vals _; rw [e])) | (have e := (by first | exact vs_mid (show t.op = 22 by with_reducible assumption) hk (by with_reducible assumption) (by with_reducible assumption) (by with_reducible assumption) | exact vs_end (show t.op = 22 by with_reducible assumption) hk (by with_reducible assumption) : varL t l = (((([] : List V.Val) ++ l.take k) ++ [⟨t.name, t.w, 0⟩]) ++ l.drop k, true)); first | (show Dat.bool (varL t l).2 = Dat.bool _; rw [e]) | (show Dat.seq K.vals (varL t l).1 = Dat.seq K.vals (((([] : List V.Val) ++ l.take k) ++ [⟨t.name, t.w, 0⟩]) ++ l.drop k); rw [e])) | (have e := varI_n hi (by with_reducible assumption) (by with_reducible assumption); first | (show Dat.bool (varL t l).2 = Dat.bool _; rw [e]) | (show List.length (varL t l).1 = 0; rw [e]; rfl)) | (have e := varI_e hi (by with_reducible assumption); first | (show Dat.bool (varL t l).2 = Dat.bool _; rw [e]) | (show Dat.seq K.vals (varL t l).1 = Dat.seq K.vals _; rw [e])) | ((first | refine bnd_v rfl ?_ | refine bnd_m ?_); have hs := qfc t; have e1 : ((k : Int)).toNat = k := rfl; have e2 : (l.take k).length + (l.drop k).length = l.length := (by simp; omega); first | (show ([] : List V.Val).length + (l.take k).length ≤ _; simp only [List.length_nil]; omega) | (show (([] : List V.Val) ++ (l.take k)).length + ([⟨t.name, t.w, 0⟩] : List V.Val).length ≤ _; simp only [List.length_append, List.length_nil, List.length_cons]; omega) | (show ((([] : List V.Val) ++ (l.take k)) ++ ([⟨t.name, t.w, 0⟩] : List V.Val)).length + (l.drop k).length ≤ _; simp only [List.length_append, List.length_nil, List.length_cons]; omega)) | omega | (dsimp only; omega) | skip
theorem s_l02Vars (op w n : Int) (nm : ByteArray) (ks : List V.Term) (l : List V.Val) (hl : l.length + sizeT ⟨op, w, n, nm, ks⟩ ≤ 1048576) :
    CallsV Tryz.prog 175 [.agg [.dat (.i op), .dat (.i w), .dat (.i n), .dat (.str nm), .dat (.seq .terms ks)], .dat (.seq .vals l)] (.tup [.dat (.seq .vals (varL ⟨op, w, n, nm, ks⟩ l).1), .dat (.bool (varL ⟨op, w, n, nm, ks⟩ l).2)]) := by
  have key : ∀ (k : Nat) (t : V.Term) (l : List V.Val), sizeT t < k → l.length + sizeT t ≤ 1048576 →
      CallsV Tryz.prog 175 [.agg [.dat (.i t.op), .dat (.i t.w), .dat (.i t.n), .dat (.str t.name), .dat (.seq .terms t.kids)], .dat (.seq .vals l)] (.tup [.dat (.seq .vals (varL t l).1), .dat (.bool (varL t l).2)]) := by
    intro k
    induction k with
    | zero => intro t _ h; omega
    | succ k ih =>
      intro t l h hl
      exact s_l02Vars0 t l ⟨fun op w n nm ks l' hs hl' => ih ⟨op, w, n, nm, ks⟩ l' (by omega) hl'⟩ hl
  exact key _ ⟨op, w, n, nm, ks⟩ l (Nat.lt_succ_self _) hl
section
variable {t : V.Term}
theorem tp_few (h : decide (fewT t 240 ≥ 0) = false) : qek t = false := by
  rw [qo0] at h
  unfold qek
  rw [h]; rfl
theorem tp_nd (h : okT t = false) : qek t = false := by
  unfold qek
  rw [h, Bool.and_false]; rfl
theorem tp_sz (h : decide (fewT t 240 ≥ 0) = true) : sizeT t ≤ 240 := by
  rw [qo0] at h
  exact of_decide_eq_true h
theorem tp_y (h : decide (fewT t 240 ≥ 0) = true) (h2 : okT t = true) : qek t = (varL t []).2 := by
  rw [qo0] at h
  unfold qek
  rw [h, h2, varL_some h2]; rfl
end
theorem s_TermOk (op w n : Int) (nm : ByteArray) (ks : List V.Term) (hn : nmT ⟨op, w, n, nm, ks⟩ = true) : CallsV Tryz.prog 153 [.agg [.dat (.i op), .dat (.i w), .dat (.i n), .dat (.str nm), .dat (.seq .terms ks)]] (.dat (.bool (qek ⟨op, w, n, nm, ks⟩))) := by
  refine CallsV.of_awp qaf qag Tryz.func153 rfl rfl rfl ?_
  conv => whnf
  repeat' (first | ((with_reducible first | refine fun (K1 : AX → AState → Prop) hK => ?_ | (show K1 _ _; subst hK) | refine sp_T ?_ | refine sp_T' ?_ | refine sp_F' ?_); conv => whnf) | ((with_reducible first | refine qbt (fun h => ?_) (fun h => ?_) | refine qcq (fun h => ?_) (fun h => ?_)) <;> first | (exact qa0 h (by with_reducible assumption)) | (exact qa0 (by with_reducible assumption) h) | (conv => whnf)) | (refine ⟨(rfl : qac _ = true), rfl, ?_⟩; conv => whnf) | (with_reducible refine qdv ?_ ?_) | ((with_reducible refine gcI (g := 173) ?_); refine ⟨_, _, c_few (hl := ?_) .., fun res B hRB => ?_⟩; rotate_right; obtain ⟨rfl, rfl⟩ := hRB; conv => whnf) | ((first | ((with_reducible refine pcI (g := 174) ?_); refine ⟨_, s_l02Node (hn := ?_) .., rfl, ?_⟩) | ((with_reducible refine pcI (g := 175) ?_); refine ⟨_, s_l02Vars (hl := ?_) .., rfl, ?_⟩)); rotate_right; conv => whnf))
  all_goals (repeat (clear hK; clear K1))
  all_goals first | exact db_eq (tp_few (by with_reducible assumption)) | exact db_eq (tp_nd (by with_reducible assumption)) | exact db_eq (tp_y (by with_reducible assumption) (by with_reducible assumption)) | exact hn | decide | (have e := tp_sz (show decide (fewT ⟨op, w, n, nm, ks⟩ 240 ≥ 0) = true by with_reducible assumption); show 0 + _ ≤ 1048576; omega) | skip
end Vg

namespace Vg
open Go Go.Proofs
set_option maxRecDepth 100000
set_option maxHeartbeats 40000000
theorem cb_eq : ∀ (x y : List UInt8), Lib.compareBytes x y = if Op.bytesLess x y = true then -1 else if Op.bytesLess y x = true then 1 else 0
  | [], [] => by simp [Lib.compareBytes, Op.bytesLess]
  | [], _ :: _ => by simp [Lib.compareBytes, Op.bytesLess]
  | _ :: _, [] => by simp [Lib.compareBytes, Op.bytesLess]
  | a :: x, b :: y => by
    rw [Lib.compareBytes, Op.bytesLess, Op.bytesLess, cb_eq x y]
    by_cases h1 : a < b
    · simp [h1]
    · by_cases h2 : b < a
      · have h3 : ¬ a = b := fun e => by subst e; exact absurd h2 h1
        simp [h1, h2, h3]
      · have h3 : a = b := UInt8.le_antisymm (UInt8.not_lt.1 h2) (UInt8.not_lt.1 h1)
        subst h3
        simp [h1]
theorem v_strCmp (a b : ByteArray) : CallsV Tryz.prog 211 [.dat (.str a), .dat (.str b)] (.dat (.i (qhi a b))) := by
  have e : qhi a b = Lib.compareBytes a.data.toList b.data.toList := by
    rw [cb_eq]
    unfold qhi qca
    rw [Lib.toList_data, Lib.toList_data]
  rw [e]
  exact compV Tryz.lays106 rfl ⟨_, Tryz.func211, rfl, rfl⟩ a b
theorem v_isNaN (n : Int) : CallsV Tryz.prog 218 [.dat (.i n)] (.dat (.bool false)) := by
  refine CallsV.of_awp qaf qag Tryz.func218 rfl rfl rfl ?_
  conv => whnf
  repeat' (first | ((with_reducible first | refine fun (K1 : AX → AState → Prop) hK => ?_ | (show K1 _ _; subst hK)); conv => whnf) | (refine ⟨(rfl : qac _ = true), rfl, ?_⟩; conv => whnf))
  all_goals (repeat (clear hK; clear K1))
  all_goals first | rfl | (exact db_eq (by simp)) | skip
theorem v_cmpInt (a b : Int) : CallsV Tryz.prog 210 [.dat (.i a), .dat (.i b)] (.dat (.i (sgn a b))) := by
  refine CallsV.of_awp qaf qag Tryz.func210 rfl rfl rfl ?_
  conv => whnf
  repeat' (first | ((with_reducible first | refine fun (K1 : AX → AState → Prop) hK => ?_ | (show K1 _ _; subst hK) | refine sp_F ?_); conv => whnf) | ((with_reducible refine qbe (fun h => ?_) (fun h => ?_)) <;> first | contradiction | (subst h; conv => whnf) | (conv => whnf)) | (refine ⟨(rfl : qac _ = true), rfl, ?_⟩; conv => whnf) | ((with_reducible refine pcI (g := 218) ?_); refine ⟨_, v_isNaN .., rfl, ?_⟩; rotate_right; conv => whnf))
  all_goals (repeat (clear hK; clear K1))
  all_goals (refine di_eq ?_; unfold sgn; (repeat' split) <;> omega)
theorem s_l02Sign (a b : Int) : CallsV Tryz.prog 216 [.dat (.i a), .dat (.i b)] (.dat (.i (sgn a b))) := by
  refine CallsV.of_awp qaf qag Tryz.func216 rfl rfl rfl ?_
  conv => whnf
  repeat' (first | ((with_reducible first | refine fun (K1 : AX → AState → Prop) hK => ?_ | (show K1 _ _; subst hK)); conv => whnf) | ((with_reducible refine qbe (fun h => ?_) (fun h => ?_)) <;> first | contradiction | (subst h; conv => whnf) | (conv => whnf)) | (refine ⟨(rfl : qac _ = true), rfl, ?_⟩; conv => whnf))
  all_goals (repeat (clear hK; clear K1))
  all_goals (refine di_eq ?_; unfold sgn; (repeat' split) <;> omega)
section
variable {a b : V.Term} {i : Nat}
theorem cm_op (h : ¬ sgn a.op b.op = 0) : cmpT a b = sgn a.op b.op := cmp_op h
theorem cm_w (h1 : sgn a.op b.op = 0) (h : ¬ sgn a.w b.w = 0) : cmpT a b = sgn a.w b.w := cmp_w (fun k => k h1) h
theorem cm_n (h1 : sgn a.op b.op = 0) (h2 : sgn a.w b.w = 0) (h : ¬ sgn a.n b.n = 0) : cmpT a b = sgn a.n b.n := cmp_n (fun k => k h1) (fun k => k h2) h
theorem cm_nm (h1 : sgn a.op b.op = 0) (h2 : sgn a.w b.w = 0) (h3 : sgn a.n b.n = 0) (h : ¬ qhi a.name b.name = 0) : cmpT a b = qhi a.name b.name := cmp_nm (fun k => k h1) (fun k => k h2) (fun k => k h3) h
theorem cmI_0 (h1 : sgn a.op b.op = 0) (h2 : sgn a.w b.w = 0) (h3 : sgn a.n b.n = 0) (h4 : qhi a.name b.name = 0) : CmpI a b 0 := cmpI_0 (fun k => k h1) (fun k => k h2) (fun k => k h3) (fun k => k h4)
theorem cmI_s (h : CmpI a b i) (h1 : (i : Int) < a.kids.length) (h2 : (i : Int) < b.kids.length) (h0 : cmpT (kE a.kids i) (kE b.kids i) = 0) : CmpI a b (i + 1) := by
  rw [qhp, qhp] at h0
  exact cmpI_s h h1 h2 (fun k => k h0)
theorem cmI_f (h : CmpI a b i) (h1 : (i : Int) < a.kids.length) (h2 : (i : Int) < b.kids.length) (h0 : ¬ cmpT (kE a.kids i) (kE b.kids i) = 0) : cmpT a b = cmpT (kE a.kids i) (kE b.kids i) := by
  rw [qhp, qhp] at *
  exact cmpI_f h h1 h2 h0
theorem cmI_e1 (h : CmpI a b i) (h1 : ¬ (i : Int) < a.kids.length) : cmpT a b = sgn a.kids.length b.kids.length := cmpI_e h fun k => h1 k.1
theorem cmI_e2 (h : CmpI a b i) (h1 : ¬ (i : Int) < b.kids.length) : cmpT a b = sgn a.kids.length b.kids.length := cmpI_e h fun k => h1 k.2
theorem cmI_e3 (h : CmpI a b i) (h1 : (i : Int) < a.kids.length) (h2 : (i : Int) = b.kids.length) : cmpT a b = 1 := by
  rw [cmI_e2 h (by omega)]
  unfold sgn
  rw [if_neg (by omega), if_pos (by omega)]
end
structure IHCi (a : V.Term) : Prop where
  call : ∀ (op w n : Int) (nm : ByteArray) (ks : List V.Term) (op' w' n' : Int) (nm' : ByteArray) (ks' : List V.Term), sizeT ⟨op, w, n, nm, ks⟩ < sizeT a →
    CallsV Tryz.prog 192 [.agg [.dat (.i op), .dat (.i w), .dat (.i n), .dat (.str nm), .dat (.seq .terms ks)], .agg [.dat (.i op'), .dat (.i w'), .dat (.i n'), .dat (.str nm'), .dat (.seq .terms ks')]] (.dat (.i (cmpT ⟨op, w, n, nm, ks⟩ ⟨op', w', n', nm', ks'⟩)))
theorem ih_ci {a : V.Term} (ih : IHCi a) {op w n : Int} {nm : ByteArray} {ks : List V.Term} {op' w' n' : Int} {nm' : ByteArray} {ks' : List V.Term} (hs : sizeT ⟨op, w, n, nm, ks⟩ < sizeT a) :
    CallsV Tryz.prog 192 [.agg [.dat (.i op), .dat (.i w), .dat (.i n), .dat (.str nm), .dat (.seq .terms ks)], .agg [.dat (.i op'), .dat (.i w'), .dat (.i n'), .dat (.str nm'), .dat (.seq .terms ks')]] (.dat (.i (cmpT ⟨op, w, n, nm, ks⟩ ⟨op', w', n', nm', ks'⟩))) := ih.call op w n nm ks op' w' n' nm' ks' hs
theorem qjh (a b : V.Term) (ih : IHCi a) : CallsV Tryz.prog 192 [.agg [.dat (.i a.op), .dat (.i a.w), .dat (.i a.n), .dat (.str a.name), .dat (.seq .terms a.kids)], .agg [.dat (.i b.op), .dat (.i b.w), .dat (.i b.n), .dat (.str b.name), .dat (.seq .terms b.kids)]] (.dat (.i (cmpT a b))) := by
  refine CallsV.of_awp qaf qag Tryz.func192 rfl rfl rfl ?_
  conv => whnf
  repeat' (first | ((with_reducible first | refine Alt.l ?_ | refine fun (K1 : AX → AState → Prop) hK => ?_ | (show K1 _ _; subst hK)); conv => whnf) | (with_reducible exact rfl) | ((with_reducible first | refine sp_T ?_ | refine sp_F ?_); conv => whnf) | ((with_reducible first | refine qbe (fun h => ?_) (fun h => ?_) | refine qhh (fun h => ?_) (fun h => ?_)) <;> first | contradiction | (subst h; conv => whnf) | (conv => whnf)) | (refine ⟨(rfl : qac _ = true), rfl, ?_⟩; conv => whnf) | (with_reducible refine qbn ?_ ?_) | ((with_reducible refine qad ?_ ?_); conv => whnf) | (refine Exists.intro ({i : Nat // CmpI a b i}) (Exists.intro (fun ⟨i, hi⟩ => mkS Tryz.f192.ntmps [(2, .ptr 2 0), (3, .ptr 3 0), (9, .dat (.i i))] [(2, .box [.dat (.i a.op), .dat (.i a.w), .dat (.i a.n), .dat (.str a.name), .dat (.seq .terms a.kids)]), (3, .box [.dat (.i b.op), .dat (.i b.w), .dat (.i b.n), .dat (.str b.name), .dat (.seq .terms b.kids)])]) (Exists.intro (fun ⟨i, hi⟩ => a.kids.length - i) (Exists.intro ⟨0, ?_⟩ (And.intro (SubP.sub (σ := [(2, some 2), (3, some 3)]) ⟨⟨rfl, rfl, rfl⟩, ⟨⟨rfl, rfl⟩, ⟨rfl, rfl⟩, (qab ?_), trivial⟩, ⟨⟨(qaa ?_), (qaa ?_), (qaa ?_), (qaa ?_), (qaa ?_), trivial⟩, ⟨(qaa ?_), (qaa ?_), (qaa ?_), (qaa ?_), (qaa ?_), trivial⟩, trivial⟩⟩) (fun ⟨i, hi⟩ => ?_))))); rotate_right; conv => whnf) | (refine Exists.intro (⟨i + 1, ?_⟩ : {i : Nat // CmpI a b i}) (And.intro ?_ (SubP.sub (σ := [(2, some 2), (3, some 3)]) ⟨⟨rfl, rfl, rfl⟩, ⟨⟨rfl, rfl⟩, ⟨rfl, rfl⟩, (qab ?_), trivial⟩, ⟨⟨(qaa ?_), (qaa ?_), (qaa ?_), (qaa ?_), (qaa ?_), trivial⟩, ⟨(qaa ?_), (qaa ?_), (qaa ?_), (qaa ?_), (qaa ?_), trivial⟩, trivial⟩⟩))) | ((first | ((with_reducible refine pcI (g := 210) ?_); refine ⟨_, v_cmpInt .., rfl, ?_⟩) | ((with_reducible refine pcI (g := 211) ?_); refine ⟨_, v_strCmp .., rfl, ?_⟩)); rotate_right; conv => whnf) | ((with_reducible show Exists _); refine Exists.intro _ (And.intro (ih_ci (ih := by assumption) (hs := ?_) ..) (And.intro rfl ?_)); rotate_right; conv => whnf) | (intro h; conv => whnf))
  all_goals (repeat (clear hK; clear K1))
  all_goals first | exact di_eq (rfl : ((0 : Nat) : Int) = 0) | (have hm : maxLen = 9223372036854775807 := rfl; refine di_eq ?_; rw [qah (by omega) (by omega)]; omega) | (rw [V.Term.eta]; exact qem (by with_reducible assumption)) | exact cmI_0 (by with_reducible assumption) (by with_reducible assumption) (by with_reducible assumption) (by with_reducible assumption) | exact cmI_s hi (by with_reducible assumption) (by with_reducible assumption) (by with_reducible assumption) | (refine di_eq ?_; first | exact cmI_f hi (by with_reducible assumption) (by with_reducible assumption) (by with_reducible assumption) | exact cmI_e1 hi (by with_reducible assumption) | exact cmI_e2 hi (by with_reducible assumption) | exact cm_op (by with_reducible assumption) | exact cm_w (by with_reducible assumption) (by with_reducible assumption) | exact cm_n (by with_reducible assumption) (by with_reducible assumption) (by with_reducible assumption) | exact cm_nm (by with_reducible assumption) (by with_reducible assumption) (by with_reducible assumption) (by with_reducible assumption)) | omega | (dsimp only; omega) | skip
theorem qb1 (op w n : Int) (nm : ByteArray) (ks : List V.Term) (op' w' n' : Int) (nm' : ByteArray) (ks' : List V.Term) :
    CallsV Tryz.prog 192 [.agg [.dat (.i op), .dat (.i w), .dat (.i n), .dat (.str nm), .dat (.seq .terms ks)], .agg [.dat (.i op'), .dat (.i w'), .dat (.i n'), .dat (.str nm'), .dat (.seq .terms ks')]] (.dat (.i (cmpT ⟨op, w, n, nm, ks⟩ ⟨op', w', n', nm', ks'⟩))) := by
  have key : ∀ (k : Nat) (a b : V.Term), sizeT a < k →
      CallsV Tryz.prog 192 [.agg [.dat (.i a.op), .dat (.i a.w), .dat (.i a.n), .dat (.str a.name), .dat (.seq .terms a.kids)], .agg [.dat (.i b.op), .dat (.i b.w), .dat (.i b.n), .dat (.str b.name), .dat (.seq .terms b.kids)]] (.dat (.i (cmpT a b))) := by
    intro k
    induction k with
    | zero => intro t _ h; omega
    | succ k ih =>
      intro a b h
      exact qjh a b ⟨fun op w n nm ks op' w' n' nm' ks' hs => ih ⟨op, w, n, nm, ks⟩ ⟨op', w', n', nm', ks'⟩ (by omega)⟩
  exact key _ ⟨op, w, n, nm, ks⟩ ⟨op', w', n', nm', ks'⟩ (Nat.lt_succ_self _)
structure IHCs (a : V.Term) : Prop where
  call : ∀ (op w n : Int) (nm : ByteArray) (ks : List V.Term) (op' w' n' : Int) (nm' : ByteArray) (ks' : List V.Term), sizeT ⟨op, w, n, nm, ks⟩ < sizeT a →
    CallsV Tryz.prog 202 [.agg [.dat (.i op), .dat (.i w), .dat (.i n), .dat (.str nm), .dat (.seq .terms ks)], .agg [.dat (.i op'), .dat (.i w'), .dat (.i n'), .dat (.str nm'), .dat (.seq .terms ks')]] (.dat (.i (cmpT ⟨op, w, n, nm, ks⟩ ⟨op', w', n', nm', ks'⟩)))
theorem ih_cs {a : V.Term} (ih : IHCs a) {op w n : Int} {nm : ByteArray} {ks : List V.Term} {op' w' n' : Int} {nm' : ByteArray} {ks' : List V.Term} (hs : sizeT ⟨op, w, n, nm, ks⟩ < sizeT a) :
    CallsV Tryz.prog 202 [.agg [.dat (.i op), .dat (.i w), .dat (.i n), .dat (.str nm), .dat (.seq .terms ks)], .agg [.dat (.i op'), .dat (.i w'), .dat (.i n'), .dat (.str nm'), .dat (.seq .terms ks')]] (.dat (.i (cmpT ⟨op, w, n, nm, ks⟩ ⟨op', w', n', nm', ks'⟩))) := ih.call op w n nm ks op' w' n' nm' ks' hs
structure Ord3 (a b : V.Term) (j : Nat) : Prop where
  le : j ≤ 3
  o : 0 < j → sgn a.op b.op = 0
  w : 1 < j → sgn a.w b.w = 0
  n : 2 < j → sgn a.n b.n = 0
theorem ord3_0 (a b : V.Term) : Ord3 a b 0 := ⟨by omega, by omega, by omega, by omega⟩
section
variable {a b : V.Term} {i j : Nat}
abbrev s3 (a b : V.Term) : List Int := [sgn a.op b.op, sgn a.w b.w, sgn a.n b.n]
theorem ord3_s (h : Ord3 a b j) (hj : (j : Int) < 3) (h0 : (s3 a b).getD (j : Int).toNat K.ints.dflt = 0) : Ord3 a b (j + 1) := by
  have : j = 0 ∨ j = 1 ∨ j = 2 := by omega
  rcases this with rfl | rfl | rfl
  · exact ⟨by omega, fun _ => h0, by omega, by omega⟩
  · exact ⟨by omega, fun _ => h.o (by omega), fun _ => h0, by omega⟩
  · exact ⟨by omega, fun _ => h.o (by omega), fun _ => h.w (by omega), fun _ => h0⟩
theorem ord3_f (h : Ord3 a b j) (hj : (j : Int) < 3) (h0 : ¬ (s3 a b).getD (j : Int).toNat K.ints.dflt = 0) : cmpT a b = (s3 a b).getD (j : Int).toNat K.ints.dflt := by
  have : j = 0 ∨ j = 1 ∨ j = 2 := by omega
  rcases this with rfl | rfl | rfl
  · exact cm_op h0
  · exact cm_w (h.o (by omega)) h0
  · exact cm_n (h.o (by omega)) (h.w (by omega)) h0
theorem sc_same (h : (a.name.toList == b.name.toList) = true) : qhi a.name b.name = 0 := by rw [str_eq h, scmp_self]
theorem cm_lt (h : Ord3 a b j) (hj : ¬ (j : Int) < 3) (h1 : Op.bytesLess a.name.toList b.name.toList = true) : cmpT a b = -1 := by
  have e := scmp_lt h1
  rw [cm_nm (h.o (by omega)) (h.w (by omega)) (h.n (by omega)) (by rw [e]; decide), e]
theorem cm_gt (h : Ord3 a b j) (hj : ¬ (j : Int) < 3) (hn : (a.name.toList == b.name.toList) = false) (h1 : Op.bytesLess a.name.toList b.name.toList = false) : cmpT a b = 1 := by
  have e := scmp_gt (str_ne hn) h1
  rw [cm_nm (h.o (by omega)) (h.w (by omega)) (h.n (by omega)) (by rw [e]; decide), e]
theorem cmI_00 (h : Ord3 a b j) (hj : ¬ (j : Int) < 3) (hn : (a.name.toList == b.name.toList) = true) : CmpI a b 0 := cmI_0 (h.o (by omega)) (h.w (by omega)) (h.n (by omega)) (sc_same hn)
theorem cmI_l (h : CmpI a b i) (h2 : ¬ (i : Int) = b.kids.length) : (i : Int) < b.kids.length := by
  have := h.lb
  omega
end
theorem qi0 (a b : V.Term) (ih : IHCs a) : CallsV Tryz.prog 202 [.agg [.dat (.i a.op), .dat (.i a.w), .dat (.i a.n), .dat (.str a.name), .dat (.seq .terms a.kids)], .agg [.dat (.i b.op), .dat (.i b.w), .dat (.i b.n), .dat (.str b.name), .dat (.seq .terms b.kids)]] (.dat (.i (cmpT a b))) := by
  refine CallsV.of_awp qaf qag Tryz.func202 rfl rfl rfl ?_
  conv => whnf
  repeat' (first | ((with_reducible first | refine Alt.l ?_ | refine fun (K1 : AX → AState → Prop) hK => ?_ | (show K1 _ _; subst hK)); conv => whnf) | (with_reducible exact rfl) | ((with_reducible first | refine qbe (fun h => ?_) (fun h => ?_) | refine qcb (fun h => ?_) (fun h => ?_) | refine qhh (fun h => ?_) (fun h => ?_)) <;> first | contradiction | (subst h; conv => whnf) | (conv => whnf)) | ((with_reducible first | refine qbt (fun h => ?_) (fun h => ?_) | refine qdl (fun h => ?_) (fun h => ?_)) <;> first | (exact qa0 h (by with_reducible assumption)) | (exact qa0 (by with_reducible assumption) h) | (conv => whnf)) | (refine ⟨(rfl : qac _ = true), rfl, ?_⟩; conv => whnf) | (with_reducible refine qbn ?_ ?_) | ((with_reducible refine qad ?_ ?_); conv => whnf) | (refine Exists.intro ({i : Nat // CmpI a b i}) (Exists.intro (fun ⟨i, hi⟩ => mkS Tryz.f202.ntmps [(3, .ptr 3 0), (46, .dat (.seq .terms a.kids)), (47, .dat (.i a.kids.length)), (48, .dat (.i i)), (2, .ptr 2 0)] [(2, .box [.dat (.i a.op), .dat (.i a.w), .dat (.i a.n), .dat (.str a.name), .dat (.seq .terms a.kids)]), (3, .box [.dat (.i b.op), .dat (.i b.w), .dat (.i b.n), .dat (.str b.name), .dat (.seq .terms b.kids)])]) (Exists.intro (fun ⟨i, hi⟩ => a.kids.length - i) (Exists.intro ⟨0, ?_⟩ (And.intro (SubP.sub (σ := [(2, some 2), (3, some 3)]) ⟨⟨rfl, rfl, rfl⟩, ⟨⟨rfl, rfl⟩, (qab ?_), (qab ?_), (qab ?_), ⟨rfl, rfl⟩, trivial⟩, ⟨⟨(qaa ?_), (qaa ?_), (qaa ?_), (qaa ?_), (qaa ?_), trivial⟩, ⟨(qaa ?_), (qaa ?_), (qaa ?_), (qaa ?_), (qaa ?_), trivial⟩, trivial⟩⟩) (fun ⟨i, hi⟩ => ?_))))); rotate_right; conv => whnf) | (refine Exists.intro (⟨i + 1, ?_⟩ : {i : Nat // CmpI a b i}) (And.intro ?_ (SubP.sub (σ := [(2, some 2), (3, some 3)]) ⟨⟨rfl, rfl, rfl⟩, ⟨⟨rfl, rfl⟩, (qab ?_), (qab ?_), (qab ?_), ⟨rfl, rfl⟩, trivial⟩, ⟨⟨(qaa ?_), (qaa ?_), (qaa ?_), (qaa ?_), (qaa ?_), trivial⟩, ⟨(qaa ?_), (qaa ?_), (qaa ?_), (qaa ?_), (qaa ?_), trivial⟩, trivial⟩⟩))) | (refine Exists.intro ({j : Nat // Ord3 a b j}) (Exists.intro (fun ⟨j, hj⟩ => mkS Tryz.f202.ntmps [(2, .ptr 2 0), (3, .ptr 3 0), (25, .row 25), (26, .dat (.i 3)), (27, .dat (.i j))] [(2, .box [.dat (.i a.op), .dat (.i a.w), .dat (.i a.n), .dat (.str a.name), .dat (.seq .terms a.kids)]), (3, .box [.dat (.i b.op), .dat (.i b.w), .dat (.i b.n), .dat (.str b.name), .dat (.seq .terms b.kids)]), (25, .row 3 .ints (s3 a b) false)]) (Exists.intro (fun ⟨j, hj⟩ => 3 - j) (Exists.intro ⟨0, ord3_0 a b⟩ (And.intro (SubP.sub (σ := [(2, some 2), (3, some 3), (25, some 25)]) ⟨⟨rfl, rfl, rfl⟩, ⟨⟨rfl, rfl⟩, ⟨rfl, rfl⟩, rfl, (qab ?_), (qab ?_), trivial⟩, ⟨⟨(qaa ?_), (qaa ?_), (qaa ?_), (qaa ?_), (qaa ?_), trivial⟩, ⟨(qaa ?_), (qaa ?_), (qaa ?_), (qaa ?_), (qaa ?_), trivial⟩, ⟨⟨rfl, rfl⟩, ?_⟩, trivial⟩⟩) (fun ⟨j, hj⟩ => ?_))))); rotate_right; conv => whnf) | (refine Exists.intro (⟨j + 1, ?_⟩ : {j : Nat // Ord3 a b j}) (And.intro ?_ (SubP.sub (σ := [(2, some 2), (3, some 3), (25, some 25)]) ⟨⟨rfl, rfl, rfl⟩, ⟨⟨rfl, rfl⟩, ⟨rfl, rfl⟩, rfl, (qab ?_), (qab ?_), trivial⟩, ⟨⟨(qaa ?_), (qaa ?_), (qaa ?_), (qaa ?_), (qaa ?_), trivial⟩, ⟨(qaa ?_), (qaa ?_), (qaa ?_), (qaa ?_), (qaa ?_), trivial⟩, ⟨⟨rfl, rfl⟩, ?_⟩, trivial⟩⟩))) | ((with_reducible refine pcI (g := 216) ?_); refine ⟨_, s_l02Sign .., rfl, ?_⟩; rotate_right; conv => whnf) | ((with_reducible show Exists _); refine Exists.intro _ (And.intro (ih_cs (ih := by assumption) (hs := ?_) ..) (And.intro rfl ?_)); rotate_right; conv => whnf) | (intro h; conv => whnf))
  all_goals (repeat (clear hK; clear K1))
  all_goals first | exact di_eq (rfl : ((0 : Nat) : Int) = 0) | (have hm : maxLen = 9223372036854775807 := rfl; refine di_eq ?_; rw [qah (by omega) (by omega)]; omega) | (rw [V.Term.eta]; exact qem (by with_reducible assumption)) | exact cmI_00 hj (by with_reducible assumption) (by with_reducible assumption) | exact ord3_s hj (by with_reducible assumption) (by with_reducible assumption) | exact cmI_s hi (by with_reducible assumption) (cmI_l hi (by with_reducible assumption)) (by with_reducible assumption) | exact cmI_l hi (by with_reducible assumption) | exact di_eq (rfl : (3 : Int) = ((3 : Nat) : Int)) | (show (j : Int).toNat < 3; omega) | (refine di_eq ?_; first | exact ord3_f hj (by with_reducible assumption) (by with_reducible assumption) | exact cmI_f hi (by with_reducible assumption) (cmI_l hi (by with_reducible assumption)) (by with_reducible assumption) | exact cmI_e1 hi (by with_reducible assumption) | exact cmI_e3 hi (by with_reducible assumption) (by with_reducible assumption) | exact cm_lt hj (by with_reducible assumption) (by with_reducible assumption) | exact cm_gt hj (by with_reducible assumption) (by with_reducible assumption) (by with_reducible assumption)) | omega | (dsimp only; omega) | skip
theorem qb0 (op w n : Int) (nm : ByteArray) (ks : List V.Term) (op' w' n' : Int) (nm' : ByteArray) (ks' : List V.Term) :
    CallsV Tryz.prog 202 [.agg [.dat (.i op), .dat (.i w), .dat (.i n), .dat (.str nm), .dat (.seq .terms ks)], .agg [.dat (.i op'), .dat (.i w'), .dat (.i n'), .dat (.str nm'), .dat (.seq .terms ks')]] (.dat (.i (cmpT ⟨op, w, n, nm, ks⟩ ⟨op', w', n', nm', ks'⟩))) := by
  have key : ∀ (k : Nat) (a b : V.Term), sizeT a < k →
      CallsV Tryz.prog 202 [.agg [.dat (.i a.op), .dat (.i a.w), .dat (.i a.n), .dat (.str a.name), .dat (.seq .terms a.kids)], .agg [.dat (.i b.op), .dat (.i b.w), .dat (.i b.n), .dat (.str b.name), .dat (.seq .terms b.kids)]] (.dat (.i (cmpT a b))) := by
    intro k
    induction k with
    | zero => intro t _ h; omega
    | succ k ih =>
      intro a b h
      exact qi0 a b ⟨fun op w n nm ks op' w' n' nm' ks' hs => ih ⟨op, w, n, nm, ks⟩ ⟨op', w', n', nm', ks'⟩ (by omega)⟩
  exact key _ ⟨op, w, n, nm, ks⟩ ⟨op', w', n', nm', ks'⟩ (Nat.lt_succ_self _)
theorem i_sameTerm (op w n : Int) (nm : ByteArray) (ks : List V.Term) (op' w' n' : Int) (nm' : ByteArray) (ks' : List V.Term) : CallsV Tryz.prog 189 [.agg [.dat (.i op), .dat (.i w), .dat (.i n), .dat (.str nm), .dat (.seq .terms ks)], .agg [.dat (.i op'), .dat (.i w'), .dat (.i n'), .dat (.str nm'), .dat (.seq .terms ks')]] (.dat (.bool (cmpT ⟨op, w, n, nm, ks⟩ ⟨op', w', n', nm', ks'⟩ == 0))) := by
  refine CallsV.of_awp qaf qag Tryz.func189 rfl rfl rfl ?_
  conv => whnf
  repeat' (first | ((with_reducible first | refine fun (K1 : AX → AState → Prop) hK => ?_ | (show K1 _ _; subst hK)); conv => whnf) | (refine ⟨(rfl : qac _ = true), rfl, ?_⟩; conv => whnf) | ((with_reducible refine pcI (g := 192) ?_); refine ⟨_, qb1 .., rfl, ?_⟩; rotate_right; conv => whnf))
  all_goals (repeat (clear hK; clear K1))
  all_goals first | rfl | skip
theorem s_l02Same (op w n : Int) (nm : ByteArray) (ks : List V.Term) (op' w' n' : Int) (nm' : ByteArray) (ks' : List V.Term) : CallsV Tryz.prog 180 [.agg [.dat (.i op), .dat (.i w), .dat (.i n), .dat (.str nm), .dat (.seq .terms ks)], .agg [.dat (.i op'), .dat (.i w'), .dat (.i n'), .dat (.str nm'), .dat (.seq .terms ks')]] (.dat (.bool (cmpT ⟨op, w, n, nm, ks⟩ ⟨op', w', n', nm', ks'⟩ == 0))) := by
  refine CallsV.of_awp qaf qag Tryz.func180 rfl rfl rfl ?_
  conv => whnf
  repeat' (first | ((with_reducible first | refine fun (K1 : AX → AState → Prop) hK => ?_ | (show K1 _ _; subst hK)); conv => whnf) | (refine ⟨(rfl : qac _ = true), rfl, ?_⟩; conv => whnf) | ((with_reducible refine pcI (g := 202) ?_); refine ⟨_, qb0 .., rfl, ?_⟩; rotate_right; conv => whnf))
  all_goals (repeat (clear hK; clear K1))
  all_goals first | rfl | skip
end Vg
