/- Terms are checked: variables and all, by the reference. Condition: names are no longer than a law lets through. -/
import Derived.Test.YtgmpfaennbojaaaGreatTermN
import Derived.Test.YtgmpfaennbojaaaGreatRet
import Derived.Test.YtgmpfaennbojaaaGreatBase
namespace Vg
open Go Go.Proofs
section
variable {t : V.Term} {l : List V.Val} {k : Nat}
theorem vs_hit (ho : t.op = 22) (hk : k ≤ l.length ∧ (l.take k).all (fun v => sLess v.name t.name) = true) (h : (k : Int) < l.length) (hl : Op.bytesLess (l.getD (k : Int).toNat K.vals.dflt).name.toList t.name.toList = false) (he : ((l.getD (k : Int).toNat K.vals.dflt).name.toList == t.name.toList) = true) :
    varL t l = (l, (l.getD (k : Int).toNat K.vals.dflt).w == t.w) := by
  rw [varL_op ho]
  simp only [Int.toNat_natCast] at *
  rw [ins_same hk h hl (str_eq he)]
  congr 1
theorem vs_mid (ho : t.op = 22) (hk : k ≤ l.length ∧ (l.take k).all (fun v => sLess v.name t.name) = true) (h : (k : Int) < l.length) (hl : Op.bytesLess (l.getD (k : Int).toNat K.vals.dflt).name.toList t.name.toList = false) (he : ((l.getD (k : Int).toNat K.vals.dflt).name.toList == t.name.toList) = false) :
    varL t l = (((([] : List V.Val) ++ l.take k) ++ [⟨t.name, t.w, 0⟩]) ++ l.drop k, true) := by
  rw [varL_op ho]
  simp only [Int.toNat_natCast] at *
  rw [ins_mid hk h hl (str_ne he)]
  simp
theorem vs_end (ho : t.op = 22) (hk : k ≤ l.length ∧ (l.take k).all (fun v => sLess v.name t.name) = true) (h : ¬ (k : Int) < l.length) : varL t l = (((([] : List V.Val) ++ l.take k) ++ [⟨t.name, t.w, 0⟩]) ++ l.drop k, true) := by
  rw [varL_op ho, ins_end hk h]
  simp
theorem vs_s (hk : k ≤ l.length ∧ (l.take k).all (fun v => sLess v.name t.name) = true) (h : (k : Int) < l.length) (hl : Op.bytesLess (l.getD (k : Int).toNat K.vals.dflt).name.toList t.name.toList = true) : ((l.take (k + 1)).all fun v => sLess v.name t.name) = true := by
  simp only [Int.toNat_natCast] at *
  exact (ins_s hk h hl).2
end
theorem bnd_v {n b : Nat} (hb : b = 32) (h : n ≤ 1048576) : n * b ≤ 140737488355328 := by subst hb; omega
theorem bnd_m {n : Nat} (h : n ≤ 1048576) : n ≤ maxLen := by
  have hm : maxLen = 9223372036854775807 := rfl
  omega
structure IHVr (t : V.Term) : Prop where
  call : ∀ (op w n : Int) (nm : ByteArray) (ks : List V.Term) (l : List V.Val), sizeT ⟨op, w, n, nm, ks⟩ < sizeT t → l.length + sizeT ⟨op, w, n, nm, ks⟩ ≤ 1048576 →
    CallsV Tryz.prog 54 [.agg [.dat (.i op), .dat (.i w), .dat (.i n), .dat (.str nm), .dat (.seq .terms ks)], .dat (.seq .vals l)] (.tup [.dat (.seq .vals (varL ⟨op, w, n, nm, ks⟩ l).1), .dat (.bool (varL ⟨op, w, n, nm, ks⟩ l).2)])
theorem ih_vr {t : V.Term} (ih : IHVr t) {op w n : Int} {nm : ByteArray} {ks : List V.Term} {l : List V.Val} (hs : sizeT ⟨op, w, n, nm, ks⟩ < sizeT t) (hl : l.length + sizeT ⟨op, w, n, nm, ks⟩ ≤ 1048576) :
    CallsV Tryz.prog 54 [.agg [.dat (.i op), .dat (.i w), .dat (.i n), .dat (.str nm), .dat (.seq .terms ks)], .dat (.seq .vals l)] (.tup [.dat (.seq .vals (varL ⟨op, w, n, nm, ks⟩ l).1), .dat (.bool (varL ⟨op, w, n, nm, ks⟩ l).2)]) := ih.call op w n nm ks l hs hl
set_option maxHeartbeats 8000000 in
set_option maxRecDepth 100000 in
theorem s_l02Vars0 (t : V.Term) (l : List V.Val) (ih : IHVr t) (hl : l.length + sizeT t ≤ 1048576) : CallsV Tryz.prog 54 [.agg [.dat (.i t.op), .dat (.i t.w), .dat (.i t.n), .dat (.str t.name), .dat (.seq .terms t.kids)], .dat (.seq .vals l)] (.tup [.dat (.seq .vals (varL t l).1), .dat (.bool (varL t l).2)]) := by
  refine CallsV.of_awp tauOk mixOk Tryz.func54 rfl rfl rfl ?_
  conv => whnf
  repeat' (first | ((with_reducible refine fun (K1 : AX → AState → Prop) hK => ?_); refine stK ⟨?_⟩) | ((with_reducible show K1 _ _); subst hK; conv => whnf) | (with_reducible exact rfl) | refine st0 ⟨?_⟩ | ((with_reducible refine SplS.mk (fun h => ?_) (fun h => ?_)) <;> first | exact ctA | (subst h; conv => whnf) | (conv => whnf)) | ((with_reducible refine SplB.mk (fun h => ?_) (fun h => ?_)) <;> first | exact ctR | (conv => whnf)) | (with_reducible first | refine bnd2 ?_ ?_ | refine bnd2' ?_ ?_ | refine bndN ?_ ?_) | ((with_reducible refine and_of ?_ ?_); conv => whnf) | (refine Exists.intro ({i : Nat // VarI t l i}) (Exists.intro (fun ⟨i, hi⟩ => mkS Tryz.f54.ntmps [(1, .dat (.seq .vals (vTo t.kids l i).1)), (2, .ptr 2 0), (73, .dat (.seq .terms t.kids)), (74, .dat (.i t.kids.length)), (75, .dat (.i i))] [(2, .box [.dat (.i t.op), .dat (.i t.w), .dat (.i t.n), .dat (.str t.name), .dat (.seq .terms t.kids)])]) (Exists.intro (fun ⟨i, hi⟩ => t.kids.length - i) (Exists.intro ⟨0, ?_⟩ (And.intro (SubP.sub (σ := [(2, some 2)]) ⟨⟨rfl, rfl, rfl⟩, ⟨(wk_dat ?_), ⟨rfl, rfl⟩, (wk_dat ?_), (wk_dat ?_), (wk_dat ?_), trivial⟩, ⟨⟨(wkC_dat ?_), (wkC_dat ?_), (wkC_dat ?_), (wkC_dat ?_), (wkC_dat ?_), trivial⟩, trivial⟩⟩) (fun ⟨i, hi⟩ => ?_))))); rotate_right; conv => whnf) | (refine Exists.intro (⟨i + 1, ?_⟩ : {i : Nat // VarI t l i}) (And.intro ?_ (SubP.sub (σ := [(2, some 2)]) ⟨⟨rfl, rfl, rfl⟩, ⟨(wk_dat ?_), ⟨rfl, rfl⟩, (wk_dat ?_), (wk_dat ?_), (wk_dat ?_), trivial⟩, ⟨⟨(wkC_dat ?_), (wkC_dat ?_), (wkC_dat ?_), (wkC_dat ?_), (wkC_dat ?_), trivial⟩, trivial⟩⟩))) | (refine Exists.intro ({k : Nat // k ≤ l.length ∧ (l.take k).all (fun v => sLess v.name t.name) = true}) (Exists.intro (fun ⟨k, hk⟩ => mkS Tryz.f54.ntmps [(1, .dat (.seq .vals l)), (2, .ptr 2 0), (6, .dat (.i k))] [(2, .box [.dat (.i t.op), .dat (.i t.w), .dat (.i t.n), .dat (.str t.name), .dat (.seq .terms t.kids)])]) (Exists.intro (fun ⟨k, hk⟩ => l.length - k) (Exists.intro ⟨0, ⟨Nat.zero_le _, rfl⟩⟩ (And.intro (SubP.sub (σ := [(2, some 2)]) ⟨⟨rfl, rfl, rfl⟩, ⟨(wk_dat ?_), ⟨rfl, rfl⟩, (wk_dat ?_), trivial⟩, ⟨⟨(wkC_dat ?_), (wkC_dat ?_), (wkC_dat ?_), (wkC_dat ?_), (wkC_dat ?_), trivial⟩, trivial⟩⟩) (fun ⟨k, hk⟩ => ?_))))); rotate_right; conv => whnf) | (refine Exists.intro (⟨k + 1, ?_⟩ : {k : Nat // k ≤ l.length ∧ (l.take k).all (fun v => sLess v.name t.name) = true}) (And.intro ?_ (SubP.sub (σ := [(2, some 2)]) ⟨⟨rfl, rfl, rfl⟩, ⟨(wk_dat ?_), ⟨rfl, rfl⟩, (wk_dat ?_), trivial⟩, ⟨⟨(wkC_dat ?_), (wkC_dat ?_), (wkC_dat ?_), (wkC_dat ?_), (wkC_dat ?_), trivial⟩, trivial⟩⟩))) | ((with_reducible refine pcI (g := 54) ?_); refine ⟨_, ih_vr (ih := by assumption) (hs := ?_) (hl := ?_) .., rfl, ?_⟩; rotate_right; conv => whnf) | ((with_reducible show Exists _); refine Exists.intro _ (And.intro (ih_vr (ih := by assumption) (hs := ?_) (hl := ?_) ..) (And.intro rfl ?_)); rotate_right; conv => whnf) | (intro h; conv => whnf))
  all_goals (repeat (clear hK; clear K1))
  all_goals first | exact True.intro | exact di_eq (rfl : ((0 : Nat) : Int) = 0) | exact vs_s hk (by with_reducible assumption) (by with_reducible assumption) | (refine di_eq ?_; rw [wrap_id (by omega) (by omega)]; done) | (have hm : maxLen = 9223372036854775807 := rfl; refine di_eq ?_; rw [wrap_id (by omega) (by omega)]; omega) | (rw [V.Term.eta]; exact size_kidT (by with_reducible assumption)) | exact varI_0 (by with_reducible assumption) | exact congrArg (Dat.seq K.vals) (by rw [vTo_0]) | exact (varI_s hi (by with_reducible assumption) (by with_reducible assumption)).1 | exact congrArg (Dat.seq K.vals) (by rw [(varI_s hi (by with_reducible assumption) (by with_reducible assumption)).2]) | exact varI_l hi (by with_reducible assumption) hl | (have e := vs_hit (show t.op = 22 by with_reducible assumption) hk (by with_reducible assumption) (by with_reducible assumption) (by with_reducible assumption); first | (show Dat.bool (varL t l).2 = Dat.bool _; rw [e]) | (show Dat.seq K.vals (varL t l).1 = Dat.seq K.vals _; rw [e])) | (have e := (by first | exact vs_mid (show t.op = 22 by with_reducible assumption) hk (by with_reducible assumption) (by with_reducible assumption) (by with_reducible assumption) | exact vs_end (show t.op = 22 by with_reducible assumption) hk (by with_reducible assumption) : varL t l = (((([] : List V.Val) ++ l.take k) ++ [⟨t.name, t.w, 0⟩]) ++ l.drop k, true)); first | (show Dat.bool (varL t l).2 = Dat.bool _; rw [e]) | (show Dat.seq K.vals (varL t l).1 = Dat.seq K.vals (((([] : List V.Val) ++ l.take k) ++ [⟨t.name, t.w, 0⟩]) ++ l.drop k); rw [e])) | (have e := varI_n hi (by with_reducible assumption) (by with_reducible assumption); first | (show Dat.bool (varL t l).2 = Dat.bool _; rw [e]) | (show List.length (varL t l).1 = 0; rw [e]; rfl)) | (have e := varI_e hi (by with_reducible assumption); first | (show Dat.bool (varL t l).2 = Dat.bool _; rw [e]) | (show Dat.seq K.vals (varL t l).1 = Dat.seq K.vals _; rw [e])) | ((first | refine bnd_v rfl ?_ | refine bnd_m ?_); have hs := sizeT_pos t; have e1 : ((k : Int)).toNat = k := rfl; have e2 : (l.take k).length + (l.drop k).length = l.length := (by simp; omega); first | (show ([] : List V.Val).length + (l.take k).length ≤ _; simp only [List.length_nil]; omega) | (show (([] : List V.Val) ++ (l.take k)).length + ([⟨t.name, t.w, 0⟩] : List V.Val).length ≤ _; simp only [List.length_append, List.length_nil, List.length_cons]; omega) | (show ((([] : List V.Val) ++ (l.take k)) ++ ([⟨t.name, t.w, 0⟩] : List V.Val)).length + (l.drop k).length ≤ _; simp only [List.length_append, List.length_nil, List.length_cons]; omega)) | omega | (dsimp only; omega) | skip
theorem s_l02Vars (op w n : Int) (nm : ByteArray) (ks : List V.Term) (l : List V.Val) (hl : l.length + sizeT ⟨op, w, n, nm, ks⟩ ≤ 1048576) :
    CallsV Tryz.prog 54 [.agg [.dat (.i op), .dat (.i w), .dat (.i n), .dat (.str nm), .dat (.seq .terms ks)], .dat (.seq .vals l)] (.tup [.dat (.seq .vals (varL ⟨op, w, n, nm, ks⟩ l).1), .dat (.bool (varL ⟨op, w, n, nm, ks⟩ l).2)]) := by
  have key : ∀ (k : Nat) (t : V.Term) (l : List V.Val), sizeT t < k → l.length + sizeT t ≤ 1048576 →
      CallsV Tryz.prog 54 [.agg [.dat (.i t.op), .dat (.i t.w), .dat (.i t.n), .dat (.str t.name), .dat (.seq .terms t.kids)], .dat (.seq .vals l)] (.tup [.dat (.seq .vals (varL t l).1), .dat (.bool (varL t l).2)]) := by
    intro k
    induction k with
    | zero => intro t _ h; omega
    | succ k ih =>
      intro t l h hl
      exact s_l02Vars0 t l ⟨fun op w n nm ks l' hs hl' => ih ⟨op, w, n, nm, ks⟩ l' (by omega) hl'⟩ hl
  exact key _ ⟨op, w, n, nm, ks⟩ l (Nat.lt_succ_self _) hl
section
variable {t : V.Term}
theorem tp_few (h : decide (fewT t 240 ≥ 0) = false) : termP t = false := by
  rw [few_iff] at h
  unfold termP
  rw [h]; rfl
theorem tp_nd (h : okT t = false) : termP t = false := by
  unfold termP
  rw [h, Bool.and_false]; rfl
theorem tp_sz (h : decide (fewT t 240 ≥ 0) = true) : sizeT t ≤ 240 := by
  rw [few_iff] at h
  exact of_decide_eq_true h
theorem tp_y (h : decide (fewT t 240 ≥ 0) = true) (h2 : okT t = true) : termP t = (varL t []).2 := by
  rw [few_iff] at h
  unfold termP
  rw [h, h2, varL_some h2]; rfl
end
set_option maxRecDepth 100000 in
theorem s_TermOk (op w n : Int) (nm : ByteArray) (ks : List V.Term) (hn : nmT ⟨op, w, n, nm, ks⟩ = true) : CallsV Tryz.prog 39 [.agg [.dat (.i op), .dat (.i w), .dat (.i n), .dat (.str nm), .dat (.seq .terms ks)]] (.dat (.bool (termP ⟨op, w, n, nm, ks⟩))) := by
  refine CallsV.of_awp tauOk mixOk Tryz.func39 rfl rfl rfl ?_
  conv => whnf
  repeat' (first | ((with_reducible refine fun (K1 : AX → AState → Prop) hK => ?_); refine stK ⟨?_⟩) | ((with_reducible show K1 _ _); subst hK; conv => whnf) | (with_reducible exact rfl) | refine st0 ⟨?_⟩ | ((with_reducible refine SplS.mk (fun h => ?_) (fun h => ?_)) <;> first | exact ctA | (subst h; conv => whnf) | (conv => whnf)) | ((with_reducible refine SplB.mk (fun h => ?_) (fun h => ?_)) <;> first | exact ctR | (conv => whnf)) | (with_reducible first | refine bnd2 ?_ ?_ | refine bnd2' ?_ ?_ | refine bndN ?_ ?_) | ((with_reducible refine gcI (g := 52) ?_); refine ⟨_, _, c_few (hl := ?_) .., fun res B hRB => ?_⟩; rotate_right; obtain ⟨rfl, rfl⟩ := hRB; conv => whnf) | ((with_reducible refine pcI (g := 53) ?_); refine ⟨_, s_l02Node (hn := ?_) .., rfl, ?_⟩; rotate_right; conv => whnf) | ((with_reducible show Exists _); refine Exists.intro _ (And.intro (s_l02Node (hn := ?_) ..) (And.intro rfl ?_)); rotate_right; conv => whnf) | ((with_reducible refine pcI (g := 54) ?_); refine ⟨_, s_l02Vars (hl := ?_) .., rfl, ?_⟩; rotate_right; conv => whnf) | ((with_reducible show Exists _); refine Exists.intro _ (And.intro (s_l02Vars (hl := ?_) ..) (And.intro rfl ?_)); rotate_right; conv => whnf) | (intro h; conv => whnf))
  all_goals (repeat (clear hK; clear K1))
  all_goals first | exact db_eq (tp_few (by with_reducible assumption)) | exact db_eq (tp_nd (by with_reducible assumption)) | exact db_eq (tp_y (by with_reducible assumption) (by with_reducible assumption)) | exact hn | decide | (have e := tp_sz (show decide (fewT ⟨op, w, n, nm, ks⟩ 240 ≥ 0) = true by with_reducible assumption); show 0 + _ ≤ 1048576; omega) | skip
end Vg

namespace Vg
open Go Go.Proofs
theorem cb_eq : ∀ (x y : List UInt8), Lib.compareBytes x y = if Op.bytesLess x y = true then -1 else if Op.bytesLess y x = true then 1 else 0
  | [], [] => by simp [Lib.compareBytes, Op.bytesLess]
  | [], _ :: _ => by simp [Lib.compareBytes, Op.bytesLess]
  | _ :: _, [] => by simp [Lib.compareBytes, Op.bytesLess]
  | a :: x, b :: y => by
    rw [Lib.compareBytes, Op.bytesLess, Op.bytesLess, cb_eq x y]
    by_cases h1 : a < b
    · simp [h1]
    · by_cases h2 : b < a
      · have h3 : ¬ a = b := fun e => by subst e; exact absurd h2 h1
        simp [h1, h2, h3]
      · have h3 : a = b := UInt8.le_antisymm (UInt8.not_lt.1 h2) (UInt8.not_lt.1 h1)
        subst h3
        simp [h1]
theorem v_strCmp (a b : ByteArray) : CallsV Tryz.prog 113 [.dat (.str a), .dat (.str b)] (.dat (.i (scmp a b))) := by
  have e : scmp a b = Lib.compareBytes a.data.toList b.data.toList := by
    rw [cb_eq]
    unfold scmp sLess
    rw [Lib.toList_data, Lib.toList_data]
  rw [e]
  exact compV Tryz.lays106 rfl ⟨_, Tryz.func113, rfl, rfl⟩ a b
set_option maxRecDepth 100000 in
theorem v_isNaN (n : Int) : CallsV Tryz.prog 114 [.dat (.i n)] (.dat (.bool false)) := by
  refine CallsV.of_awp tauOk mixOk Tryz.func114 rfl rfl rfl ?_
  conv => whnf
  repeat' (first | ((with_reducible refine fun (K1 : AX → AState → Prop) hK => ?_); refine stK ⟨?_⟩) | ((with_reducible show K1 _ _); subst hK; conv => whnf) | (with_reducible exact rfl) | refine st0 ⟨?_⟩ | ((with_reducible refine SplS.mk (fun h => ?_) (fun h => ?_)) <;> first | exact ctA | (subst h; conv => whnf) | (conv => whnf)) | ((with_reducible refine SplB.mk (fun h => ?_) (fun h => ?_)) <;> first | exact ctR | (conv => whnf)) | (intro h; conv => whnf))
  all_goals (repeat (clear hK; clear K1))
  all_goals first | rfl | (exact db_eq (by simp)) | skip
set_option maxRecDepth 100000 in
theorem v_cmpInt (a b : Int) : CallsV Tryz.prog 112 [.dat (.i a), .dat (.i b)] (.dat (.i (sgn a b))) := by
  refine CallsV.of_awp tauOk mixOk Tryz.func112 rfl rfl rfl ?_
  conv => whnf
  repeat' (first | ((with_reducible refine fun (K1 : AX → AState → Prop) hK => ?_); refine stK ⟨?_⟩) | ((with_reducible show K1 _ _); subst hK; conv => whnf) | (with_reducible exact rfl) | refine st0 ⟨?_⟩ | ((with_reducible refine SplS.mk (fun h => ?_) (fun h => ?_)) <;> first | exact ctA | (subst h; conv => whnf) | (conv => whnf)) | ((with_reducible refine SplB.mk (fun h => ?_) (fun h => ?_)) <;> first | exact ctR | (conv => whnf)) | ((with_reducible refine pcI (g := 114) ?_); refine ⟨_, v_isNaN .., rfl, ?_⟩; rotate_right; conv => whnf) | ((with_reducible show Exists _); refine Exists.intro _ (And.intro (v_isNaN ..) (And.intro rfl ?_)); rotate_right; conv => whnf) | (intro h; conv => whnf))
  all_goals (repeat (clear hK; clear K1))
  all_goals (refine di_eq ?_; unfold sgn; (repeat' split) <;> omega)
set_option maxRecDepth 100000 in
theorem s_l02Sign (a b : Int) : CallsV Tryz.prog 94 [.dat (.i a), .dat (.i b)] (.dat (.i (sgn a b))) := by
  refine CallsV.of_awp tauOk mixOk Tryz.func94 rfl rfl rfl ?_
  conv => whnf
  repeat' (first | ((with_reducible refine fun (K1 : AX → AState → Prop) hK => ?_); refine stK ⟨?_⟩) | ((with_reducible show K1 _ _); subst hK; conv => whnf) | (with_reducible exact rfl) | refine st0 ⟨?_⟩ | ((with_reducible refine SplS.mk (fun h => ?_) (fun h => ?_)) <;> first | exact ctA | (subst h; conv => whnf) | (conv => whnf)) | ((with_reducible refine SplB.mk (fun h => ?_) (fun h => ?_)) <;> first | exact ctR | (conv => whnf)) | (intro h; conv => whnf))
  all_goals (repeat (clear hK; clear K1))
  all_goals (refine di_eq ?_; unfold sgn; (repeat' split) <;> omega)
section
variable {a b : V.Term} {i : Nat}
theorem cm_op (h : ¬ sgn a.op b.op = 0) : cmpT a b = sgn a.op b.op := cmp_op h
theorem cm_w (h1 : sgn a.op b.op = 0) (h : ¬ sgn a.w b.w = 0) : cmpT a b = sgn a.w b.w := cmp_w (fun k => k h1) h
theorem cm_n (h1 : sgn a.op b.op = 0) (h2 : sgn a.w b.w = 0) (h : ¬ sgn a.n b.n = 0) : cmpT a b = sgn a.n b.n := cmp_n (fun k => k h1) (fun k => k h2) h
theorem cm_nm (h1 : sgn a.op b.op = 0) (h2 : sgn a.w b.w = 0) (h3 : sgn a.n b.n = 0) (h : ¬ scmp a.name b.name = 0) : cmpT a b = scmp a.name b.name := cmp_nm (fun k => k h1) (fun k => k h2) (fun k => k h3) h
theorem cmI_0 (h1 : sgn a.op b.op = 0) (h2 : sgn a.w b.w = 0) (h3 : sgn a.n b.n = 0) (h4 : scmp a.name b.name = 0) : CmpI a b 0 := cmpI_0 (fun k => k h1) (fun k => k h2) (fun k => k h3) (fun k => k h4)
theorem cmI_s (h : CmpI a b i) (h1 : (i : Int) < a.kids.length) (h2 : (i : Int) < b.kids.length) (h0 : cmpT (kE a.kids i) (kE b.kids i) = 0) : CmpI a b (i + 1) := by
  rw [kE_eq, kE_eq] at h0
  exact cmpI_s h h1 h2 (fun k => k h0)
theorem cmI_f (h : CmpI a b i) (h1 : (i : Int) < a.kids.length) (h2 : (i : Int) < b.kids.length) (h0 : ¬ cmpT (kE a.kids i) (kE b.kids i) = 0) : cmpT a b = cmpT (kE a.kids i) (kE b.kids i) := by
  rw [kE_eq, kE_eq] at *
  exact cmpI_f h h1 h2 h0
theorem cmI_e1 (h : CmpI a b i) (h1 : ¬ (i : Int) < a.kids.length) : cmpT a b = sgn a.kids.length b.kids.length := cmpI_e h fun k => h1 k.1
theorem cmI_e2 (h : CmpI a b i) (h1 : ¬ (i : Int) < b.kids.length) : cmpT a b = sgn a.kids.length b.kids.length := cmpI_e h fun k => h1 k.2
theorem cmI_e3 (h : CmpI a b i) (h1 : (i : Int) < a.kids.length) (h2 : (i : Int) = b.kids.length) : cmpT a b = 1 := by
  rw [cmI_e2 h (by omega)]
  unfold sgn
  rw [if_neg (by omega), if_pos (by omega)]
end
structure IHCi (a : V.Term) : Prop where
  call : ∀ (op w n : Int) (nm : ByteArray) (ks : List V.Term) (op' w' n' : Int) (nm' : ByteArray) (ks' : List V.Term), sizeT ⟨op, w, n, nm, ks⟩ < sizeT a →
    CallsV Tryz.prog 106 [.agg [.dat (.i op), .dat (.i w), .dat (.i n), .dat (.str nm), .dat (.seq .terms ks)], .agg [.dat (.i op'), .dat (.i w'), .dat (.i n'), .dat (.str nm'), .dat (.seq .terms ks')]] (.dat (.i (cmpT ⟨op, w, n, nm, ks⟩ ⟨op', w', n', nm', ks'⟩)))
theorem ih_ci {a : V.Term} (ih : IHCi a) {op w n : Int} {nm : ByteArray} {ks : List V.Term} {op' w' n' : Int} {nm' : ByteArray} {ks' : List V.Term} (hs : sizeT ⟨op, w, n, nm, ks⟩ < sizeT a) :
    CallsV Tryz.prog 106 [.agg [.dat (.i op), .dat (.i w), .dat (.i n), .dat (.str nm), .dat (.seq .terms ks)], .agg [.dat (.i op'), .dat (.i w'), .dat (.i n'), .dat (.str nm'), .dat (.seq .terms ks')]] (.dat (.i (cmpT ⟨op, w, n, nm, ks⟩ ⟨op', w', n', nm', ks'⟩))) := ih.call op w n nm ks op' w' n' nm' ks' hs
set_option maxHeartbeats 4000000 in
set_option maxRecDepth 100000 in
theorem i_CompareTerms0 (a b : V.Term) (ih : IHCi a) : CallsV Tryz.prog 106 [.agg [.dat (.i a.op), .dat (.i a.w), .dat (.i a.n), .dat (.str a.name), .dat (.seq .terms a.kids)], .agg [.dat (.i b.op), .dat (.i b.w), .dat (.i b.n), .dat (.str b.name), .dat (.seq .terms b.kids)]] (.dat (.i (cmpT a b))) := by
  refine CallsV.of_awp tauOk mixOk Tryz.func106 rfl rfl rfl ?_
  conv => whnf
  repeat' (first | ((with_reducible refine fun (K1 : AX → AState → Prop) hK => ?_); refine stK ⟨?_⟩) | ((with_reducible show K1 _ _); subst hK; conv => whnf) | (with_reducible exact rfl) | refine st0 ⟨?_⟩ | ((with_reducible refine SplS.mk (fun h => ?_) (fun h => ?_)) <;> first | exact ctA | (subst h; conv => whnf) | (conv => whnf)) | ((with_reducible refine SplB.mk (fun h => ?_) (fun h => ?_)) <;> first | exact ctR | (conv => whnf)) | (with_reducible first | refine bnd2 ?_ ?_ | refine bnd2' ?_ ?_ | refine bndN ?_ ?_) | ((with_reducible refine and_of ?_ ?_); conv => whnf) | (refine Exists.intro ({i : Nat // CmpI a b i}) (Exists.intro (fun ⟨i, hi⟩ => mkS Tryz.f106.ntmps [(2, .ptr 2 0), (3, .ptr 3 0), (9, .dat (.i i))] [(2, .box [.dat (.i a.op), .dat (.i a.w), .dat (.i a.n), .dat (.str a.name), .dat (.seq .terms a.kids)]), (3, .box [.dat (.i b.op), .dat (.i b.w), .dat (.i b.n), .dat (.str b.name), .dat (.seq .terms b.kids)])]) (Exists.intro (fun ⟨i, hi⟩ => a.kids.length - i) (Exists.intro ⟨0, ?_⟩ (And.intro (SubP.sub (σ := [(2, some 2), (3, some 3)]) ⟨⟨rfl, rfl, rfl⟩, ⟨⟨rfl, rfl⟩, ⟨rfl, rfl⟩, (wk_dat ?_), trivial⟩, ⟨⟨(wkC_dat ?_), (wkC_dat ?_), (wkC_dat ?_), (wkC_dat ?_), (wkC_dat ?_), trivial⟩, ⟨(wkC_dat ?_), (wkC_dat ?_), (wkC_dat ?_), (wkC_dat ?_), (wkC_dat ?_), trivial⟩, trivial⟩⟩) (fun ⟨i, hi⟩ => ?_))))); rotate_right; conv => whnf) | (refine Exists.intro (⟨i + 1, ?_⟩ : {i : Nat // CmpI a b i}) (And.intro ?_ (SubP.sub (σ := [(2, some 2), (3, some 3)]) ⟨⟨rfl, rfl, rfl⟩, ⟨⟨rfl, rfl⟩, ⟨rfl, rfl⟩, (wk_dat ?_), trivial⟩, ⟨⟨(wkC_dat ?_), (wkC_dat ?_), (wkC_dat ?_), (wkC_dat ?_), (wkC_dat ?_), trivial⟩, ⟨(wkC_dat ?_), (wkC_dat ?_), (wkC_dat ?_), (wkC_dat ?_), (wkC_dat ?_), trivial⟩, trivial⟩⟩))) | ((with_reducible refine pcI (g := 112) ?_); refine ⟨_, v_cmpInt .., rfl, ?_⟩; rotate_right; conv => whnf) | ((with_reducible show Exists _); refine Exists.intro _ (And.intro (v_cmpInt ..) (And.intro rfl ?_)); rotate_right; conv => whnf) | ((with_reducible refine pcI (g := 113) ?_); refine ⟨_, v_strCmp .., rfl, ?_⟩; rotate_right; conv => whnf) | ((with_reducible show Exists _); refine Exists.intro _ (And.intro (v_strCmp ..) (And.intro rfl ?_)); rotate_right; conv => whnf) | ((with_reducible refine pcI (g := 106) ?_); refine ⟨_, ih_ci (ih := by assumption) (hs := ?_) .., rfl, ?_⟩; rotate_right; conv => whnf) | ((with_reducible show Exists _); refine Exists.intro _ (And.intro (ih_ci (ih := by assumption) (hs := ?_) ..) (And.intro rfl ?_)); rotate_right; conv => whnf) | (intro h; conv => whnf))
  all_goals (repeat (clear hK; clear K1))
  all_goals first | exact di_eq (rfl : ((0 : Nat) : Int) = 0) | (refine di_eq ?_; rw [wrap_id (by omega) (by omega)]; done) | (have hm : maxLen = 9223372036854775807 := rfl; refine di_eq ?_; rw [wrap_id (by omega) (by omega)]; omega) | (rw [V.Term.eta]; exact size_kidT (by with_reducible assumption)) | exact cmI_0 (by with_reducible assumption) (by with_reducible assumption) (by with_reducible assumption) (by with_reducible assumption) | exact cmI_s hi (by with_reducible assumption) (by with_reducible assumption) (by with_reducible assumption) | (refine di_eq ?_; first | exact cmI_f hi (by with_reducible assumption) (by with_reducible assumption) (by with_reducible assumption) | exact cmI_e1 hi (by with_reducible assumption) | exact cmI_e2 hi (by with_reducible assumption) | exact cm_op (by with_reducible assumption) | exact cm_w (by with_reducible assumption) (by with_reducible assumption) | exact cm_n (by with_reducible assumption) (by with_reducible assumption) (by with_reducible assumption) | exact cm_nm (by with_reducible assumption) (by with_reducible assumption) (by with_reducible assumption) (by with_reducible assumption)) | omega | (dsimp only; omega) | skip
theorem i_CompareTerms (op w n : Int) (nm : ByteArray) (ks : List V.Term) (op' w' n' : Int) (nm' : ByteArray) (ks' : List V.Term) :
    CallsV Tryz.prog 106 [.agg [.dat (.i op), .dat (.i w), .dat (.i n), .dat (.str nm), .dat (.seq .terms ks)], .agg [.dat (.i op'), .dat (.i w'), .dat (.i n'), .dat (.str nm'), .dat (.seq .terms ks')]] (.dat (.i (cmpT ⟨op, w, n, nm, ks⟩ ⟨op', w', n', nm', ks'⟩))) := by
  have key : ∀ (k : Nat) (a b : V.Term), sizeT a < k →
      CallsV Tryz.prog 106 [.agg [.dat (.i a.op), .dat (.i a.w), .dat (.i a.n), .dat (.str a.name), .dat (.seq .terms a.kids)], .agg [.dat (.i b.op), .dat (.i b.w), .dat (.i b.n), .dat (.str b.name), .dat (.seq .terms b.kids)]] (.dat (.i (cmpT a b))) := by
    intro k
    induction k with
    | zero => intro t _ h; omega
    | succ k ih =>
      intro a b h
      exact i_CompareTerms0 a b ⟨fun op w n nm ks op' w' n' nm' ks' hs => ih ⟨op, w, n, nm, ks⟩ ⟨op', w', n', nm', ks'⟩ (by omega)⟩
  exact key _ ⟨op, w, n, nm, ks⟩ ⟨op', w', n', nm', ks'⟩ (Nat.lt_succ_self _)
structure IHCs (a : V.Term) : Prop where
  call : ∀ (op w n : Int) (nm : ByteArray) (ks : List V.Term) (op' w' n' : Int) (nm' : ByteArray) (ks' : List V.Term), sizeT ⟨op, w, n, nm, ks⟩ < sizeT a →
    CallsV Tryz.prog 73 [.agg [.dat (.i op), .dat (.i w), .dat (.i n), .dat (.str nm), .dat (.seq .terms ks)], .agg [.dat (.i op'), .dat (.i w'), .dat (.i n'), .dat (.str nm'), .dat (.seq .terms ks')]] (.dat (.i (cmpT ⟨op, w, n, nm, ks⟩ ⟨op', w', n', nm', ks'⟩)))
theorem ih_cs {a : V.Term} (ih : IHCs a) {op w n : Int} {nm : ByteArray} {ks : List V.Term} {op' w' n' : Int} {nm' : ByteArray} {ks' : List V.Term} (hs : sizeT ⟨op, w, n, nm, ks⟩ < sizeT a) :
    CallsV Tryz.prog 73 [.agg [.dat (.i op), .dat (.i w), .dat (.i n), .dat (.str nm), .dat (.seq .terms ks)], .agg [.dat (.i op'), .dat (.i w'), .dat (.i n'), .dat (.str nm'), .dat (.seq .terms ks')]] (.dat (.i (cmpT ⟨op, w, n, nm, ks⟩ ⟨op', w', n', nm', ks'⟩))) := ih.call op w n nm ks op' w' n' nm' ks' hs
structure Ord3 (a b : V.Term) (j : Nat) : Prop where
  le : j ≤ 3
  o : 0 < j → sgn a.op b.op = 0
  w : 1 < j → sgn a.w b.w = 0
  n : 2 < j → sgn a.n b.n = 0
theorem ord3_0 (a b : V.Term) : Ord3 a b 0 := ⟨by omega, by omega, by omega, by omega⟩
section
variable {a b : V.Term} {i j : Nat}
abbrev s3 (a b : V.Term) : List Int := [sgn a.op b.op, sgn a.w b.w, sgn a.n b.n]
theorem ord3_s (h : Ord3 a b j) (hj : (j : Int) < 3) (h0 : (s3 a b).getD (j : Int).toNat K.ints.dflt = 0) : Ord3 a b (j + 1) := by
  have : j = 0 ∨ j = 1 ∨ j = 2 := by omega
  rcases this with rfl | rfl | rfl
  · exact ⟨by omega, fun _ => h0, by omega, by omega⟩
  · exact ⟨by omega, fun _ => h.o (by omega), fun _ => h0, by omega⟩
  · exact ⟨by omega, fun _ => h.o (by omega), fun _ => h.w (by omega), fun _ => h0⟩
theorem ord3_f (h : Ord3 a b j) (hj : (j : Int) < 3) (h0 : ¬ (s3 a b).getD (j : Int).toNat K.ints.dflt = 0) : cmpT a b = (s3 a b).getD (j : Int).toNat K.ints.dflt := by
  have : j = 0 ∨ j = 1 ∨ j = 2 := by omega
  rcases this with rfl | rfl | rfl
  · exact cm_op h0
  · exact cm_w (h.o (by omega)) h0
  · exact cm_n (h.o (by omega)) (h.w (by omega)) h0
theorem sc_same (h : (a.name.toList == b.name.toList) = true) : scmp a.name b.name = 0 := by rw [str_eq h, scmp_self]
theorem cm_lt (h : Ord3 a b j) (hj : ¬ (j : Int) < 3) (h1 : Op.bytesLess a.name.toList b.name.toList = true) : cmpT a b = -1 := by
  have e := scmp_lt h1
  rw [cm_nm (h.o (by omega)) (h.w (by omega)) (h.n (by omega)) (by rw [e]; decide), e]
theorem cm_gt (h : Ord3 a b j) (hj : ¬ (j : Int) < 3) (hn : (a.name.toList == b.name.toList) = false) (h1 : Op.bytesLess a.name.toList b.name.toList = false) : cmpT a b = 1 := by
  have e := scmp_gt (str_ne hn) h1
  rw [cm_nm (h.o (by omega)) (h.w (by omega)) (h.n (by omega)) (by rw [e]; decide), e]
theorem cmI_00 (h : Ord3 a b j) (hj : ¬ (j : Int) < 3) (hn : (a.name.toList == b.name.toList) = true) : CmpI a b 0 := cmI_0 (h.o (by omega)) (h.w (by omega)) (h.n (by omega)) (sc_same hn)
theorem cmI_l (h : CmpI a b i) (h2 : ¬ (i : Int) = b.kids.length) : (i : Int) < b.kids.length := by
  have := h.lb
  omega
end
set_option maxHeartbeats 4000000 in
set_option maxRecDepth 100000 in
theorem s_CompareTerms0 (a b : V.Term) (ih : IHCs a) : CallsV Tryz.prog 73 [.agg [.dat (.i a.op), .dat (.i a.w), .dat (.i a.n), .dat (.str a.name), .dat (.seq .terms a.kids)], .agg [.dat (.i b.op), .dat (.i b.w), .dat (.i b.n), .dat (.str b.name), .dat (.seq .terms b.kids)]] (.dat (.i (cmpT a b))) := by
  refine CallsV.of_awp tauOk mixOk Tryz.func73 rfl rfl rfl ?_
  conv => whnf
  repeat' (first | ((with_reducible refine fun (K1 : AX → AState → Prop) hK => ?_); refine stK ⟨?_⟩) | ((with_reducible show K1 _ _); subst hK; conv => whnf) | (with_reducible exact rfl) | refine st0 ⟨?_⟩ | ((with_reducible refine SplS.mk (fun h => ?_) (fun h => ?_)) <;> first | exact ctA | (subst h; conv => whnf) | (conv => whnf)) | ((with_reducible refine SplB.mk (fun h => ?_) (fun h => ?_)) <;> first | exact ctR | (conv => whnf)) | (with_reducible first | refine bnd2 ?_ ?_ | refine bnd2' ?_ ?_ | refine bndN ?_ ?_) | ((with_reducible refine and_of ?_ ?_); conv => whnf) | (refine Exists.intro ({i : Nat // CmpI a b i}) (Exists.intro (fun ⟨i, hi⟩ => mkS Tryz.f73.ntmps [(3, .ptr 3 0), (46, .dat (.seq .terms a.kids)), (47, .dat (.i a.kids.length)), (48, .dat (.i i)), (2, .ptr 2 0)] [(2, .box [.dat (.i a.op), .dat (.i a.w), .dat (.i a.n), .dat (.str a.name), .dat (.seq .terms a.kids)]), (3, .box [.dat (.i b.op), .dat (.i b.w), .dat (.i b.n), .dat (.str b.name), .dat (.seq .terms b.kids)])]) (Exists.intro (fun ⟨i, hi⟩ => a.kids.length - i) (Exists.intro ⟨0, ?_⟩ (And.intro (SubP.sub (σ := [(2, some 2), (3, some 3)]) ⟨⟨rfl, rfl, rfl⟩, ⟨⟨rfl, rfl⟩, (wk_dat ?_), (wk_dat ?_), (wk_dat ?_), ⟨rfl, rfl⟩, trivial⟩, ⟨⟨(wkC_dat ?_), (wkC_dat ?_), (wkC_dat ?_), (wkC_dat ?_), (wkC_dat ?_), trivial⟩, ⟨(wkC_dat ?_), (wkC_dat ?_), (wkC_dat ?_), (wkC_dat ?_), (wkC_dat ?_), trivial⟩, trivial⟩⟩) (fun ⟨i, hi⟩ => ?_))))); rotate_right; conv => whnf) | (refine Exists.intro (⟨i + 1, ?_⟩ : {i : Nat // CmpI a b i}) (And.intro ?_ (SubP.sub (σ := [(2, some 2), (3, some 3)]) ⟨⟨rfl, rfl, rfl⟩, ⟨⟨rfl, rfl⟩, (wk_dat ?_), (wk_dat ?_), (wk_dat ?_), ⟨rfl, rfl⟩, trivial⟩, ⟨⟨(wkC_dat ?_), (wkC_dat ?_), (wkC_dat ?_), (wkC_dat ?_), (wkC_dat ?_), trivial⟩, ⟨(wkC_dat ?_), (wkC_dat ?_), (wkC_dat ?_), (wkC_dat ?_), (wkC_dat ?_), trivial⟩, trivial⟩⟩))) | (refine Exists.intro ({j : Nat // Ord3 a b j}) (Exists.intro (fun ⟨j, hj⟩ => mkS Tryz.f73.ntmps [(2, .ptr 2 0), (3, .ptr 3 0), (25, .row 25), (26, .dat (.i 3)), (27, .dat (.i j))] [(2, .box [.dat (.i a.op), .dat (.i a.w), .dat (.i a.n), .dat (.str a.name), .dat (.seq .terms a.kids)]), (3, .box [.dat (.i b.op), .dat (.i b.w), .dat (.i b.n), .dat (.str b.name), .dat (.seq .terms b.kids)]), (25, .row 3 .ints (s3 a b) false)]) (Exists.intro (fun ⟨j, hj⟩ => 3 - j) (Exists.intro ⟨0, ord3_0 a b⟩ (And.intro (SubP.sub (σ := [(2, some 2), (3, some 3), (25, some 25)]) ⟨⟨rfl, rfl, rfl⟩, ⟨⟨rfl, rfl⟩, ⟨rfl, rfl⟩, rfl, (wk_dat ?_), (wk_dat ?_), trivial⟩, ⟨⟨(wkC_dat ?_), (wkC_dat ?_), (wkC_dat ?_), (wkC_dat ?_), (wkC_dat ?_), trivial⟩, ⟨(wkC_dat ?_), (wkC_dat ?_), (wkC_dat ?_), (wkC_dat ?_), (wkC_dat ?_), trivial⟩, ⟨⟨rfl, rfl⟩, ?_⟩, trivial⟩⟩) (fun ⟨j, hj⟩ => ?_))))); rotate_right; conv => whnf) | (refine Exists.intro (⟨j + 1, ?_⟩ : {j : Nat // Ord3 a b j}) (And.intro ?_ (SubP.sub (σ := [(2, some 2), (3, some 3), (25, some 25)]) ⟨⟨rfl, rfl, rfl⟩, ⟨⟨rfl, rfl⟩, ⟨rfl, rfl⟩, rfl, (wk_dat ?_), (wk_dat ?_), trivial⟩, ⟨⟨(wkC_dat ?_), (wkC_dat ?_), (wkC_dat ?_), (wkC_dat ?_), (wkC_dat ?_), trivial⟩, ⟨(wkC_dat ?_), (wkC_dat ?_), (wkC_dat ?_), (wkC_dat ?_), (wkC_dat ?_), trivial⟩, ⟨⟨rfl, rfl⟩, ?_⟩, trivial⟩⟩))) | ((with_reducible refine pcI (g := 94) ?_); refine ⟨_, s_l02Sign .., rfl, ?_⟩; rotate_right; conv => whnf) | ((with_reducible show Exists _); refine Exists.intro _ (And.intro (s_l02Sign ..) (And.intro rfl ?_)); rotate_right; conv => whnf) | ((with_reducible refine pcI (g := 73) ?_); refine ⟨_, ih_cs (ih := by assumption) (hs := ?_) .., rfl, ?_⟩; rotate_right; conv => whnf) | ((with_reducible show Exists _); refine Exists.intro _ (And.intro (ih_cs (ih := by assumption) (hs := ?_) ..) (And.intro rfl ?_)); rotate_right; conv => whnf) | (intro h; conv => whnf))
  all_goals (repeat (clear hK; clear K1))
  all_goals first | exact di_eq (rfl : ((0 : Nat) : Int) = 0) | (refine di_eq ?_; rw [wrap_id (by omega) (by omega)]; done) | (have hm : maxLen = 9223372036854775807 := rfl; refine di_eq ?_; rw [wrap_id (by omega) (by omega)]; omega) | (rw [V.Term.eta]; exact size_kidT (by with_reducible assumption)) | exact cmI_00 hj (by with_reducible assumption) (by with_reducible assumption) | exact ord3_s hj (by with_reducible assumption) (by with_reducible assumption) | exact cmI_s hi (by with_reducible assumption) (cmI_l hi (by with_reducible assumption)) (by with_reducible assumption) | exact cmI_l hi (by with_reducible assumption) | exact di_eq (rfl : (3 : Int) = ((3 : Nat) : Int)) | (show (j : Int).toNat < 3; omega) | (refine di_eq ?_; first | exact ord3_f hj (by with_reducible assumption) (by with_reducible assumption) | exact cmI_f hi (by with_reducible assumption) (cmI_l hi (by with_reducible assumption)) (by with_reducible assumption) | exact cmI_e1 hi (by with_reducible assumption) | exact cmI_e3 hi (by with_reducible assumption) (by with_reducible assumption) | exact cm_lt hj (by with_reducible assumption) (by with_reducible assumption) | exact cm_gt hj (by with_reducible assumption) (by with_reducible assumption) (by with_reducible assumption)) | omega | (dsimp only; omega) | skip
theorem s_CompareTerms (op w n : Int) (nm : ByteArray) (ks : List V.Term) (op' w' n' : Int) (nm' : ByteArray) (ks' : List V.Term) :
    CallsV Tryz.prog 73 [.agg [.dat (.i op), .dat (.i w), .dat (.i n), .dat (.str nm), .dat (.seq .terms ks)], .agg [.dat (.i op'), .dat (.i w'), .dat (.i n'), .dat (.str nm'), .dat (.seq .terms ks')]] (.dat (.i (cmpT ⟨op, w, n, nm, ks⟩ ⟨op', w', n', nm', ks'⟩))) := by
  have key : ∀ (k : Nat) (a b : V.Term), sizeT a < k →
      CallsV Tryz.prog 73 [.agg [.dat (.i a.op), .dat (.i a.w), .dat (.i a.n), .dat (.str a.name), .dat (.seq .terms a.kids)], .agg [.dat (.i b.op), .dat (.i b.w), .dat (.i b.n), .dat (.str b.name), .dat (.seq .terms b.kids)]] (.dat (.i (cmpT a b))) := by
    intro k
    induction k with
    | zero => intro t _ h; omega
    | succ k ih =>
      intro a b h
      exact s_CompareTerms0 a b ⟨fun op w n nm ks op' w' n' nm' ks' hs => ih ⟨op, w, n, nm, ks⟩ ⟨op', w', n', nm', ks'⟩ (by omega)⟩
  exact key _ ⟨op, w, n, nm, ks⟩ ⟨op', w', n', nm', ks'⟩ (Nat.lt_succ_self _)
set_option maxRecDepth 100000 in
theorem i_sameTerm (op w n : Int) (nm : ByteArray) (ks : List V.Term) (op' w' n' : Int) (nm' : ByteArray) (ks' : List V.Term) : CallsV Tryz.prog 103 [.agg [.dat (.i op), .dat (.i w), .dat (.i n), .dat (.str nm), .dat (.seq .terms ks)], .agg [.dat (.i op'), .dat (.i w'), .dat (.i n'), .dat (.str nm'), .dat (.seq .terms ks')]] (.dat (.bool (cmpT ⟨op, w, n, nm, ks⟩ ⟨op', w', n', nm', ks'⟩ == 0))) := by
  refine CallsV.of_awp tauOk mixOk Tryz.func103 rfl rfl rfl ?_
  conv => whnf
  repeat' (first | ((with_reducible refine fun (K1 : AX → AState → Prop) hK => ?_); refine stK ⟨?_⟩) | ((with_reducible show K1 _ _); subst hK; conv => whnf) | (with_reducible exact rfl) | ((with_reducible refine SplS.mk (fun h => ?_) (fun h => ?_)) <;> first | exact ctA | (subst h; conv => whnf) | (conv => whnf)) | ((with_reducible refine SplB.mk (fun h => ?_) (fun h => ?_)) <;> first | exact ctR | (conv => whnf)) | ((with_reducible refine and_of ?_ ?_); conv => whnf) | ((with_reducible refine pcI (g := 106) ?_); refine ⟨_, i_CompareTerms .., rfl, ?_⟩; rotate_right; conv => whnf) | ((with_reducible show Exists _); refine Exists.intro _ (And.intro (i_CompareTerms ..) (And.intro rfl ?_)); rotate_right; conv => whnf) | (intro h; conv => whnf))
  all_goals (repeat (clear hK; clear K1))
  all_goals first | rfl | skip
set_option maxRecDepth 100000 in
theorem s_l02Same (op w n : Int) (nm : ByteArray) (ks : List V.Term) (op' w' n' : Int) (nm' : ByteArray) (ks' : List V.Term) : CallsV Tryz.prog 59 [.agg [.dat (.i op), .dat (.i w), .dat (.i n), .dat (.str nm), .dat (.seq .terms ks)], .agg [.dat (.i op'), .dat (.i w'), .dat (.i n'), .dat (.str nm'), .dat (.seq .terms ks')]] (.dat (.bool (cmpT ⟨op, w, n, nm, ks⟩ ⟨op', w', n', nm', ks'⟩ == 0))) := by
  refine CallsV.of_awp tauOk mixOk Tryz.func59 rfl rfl rfl ?_
  conv => whnf
  repeat' (first | ((with_reducible refine fun (K1 : AX → AState → Prop) hK => ?_); refine stK ⟨?_⟩) | ((with_reducible show K1 _ _); subst hK; conv => whnf) | (with_reducible exact rfl) | ((with_reducible refine SplS.mk (fun h => ?_) (fun h => ?_)) <;> first | exact ctA | (subst h; conv => whnf) | (conv => whnf)) | ((with_reducible refine SplB.mk (fun h => ?_) (fun h => ?_)) <;> first | exact ctR | (conv => whnf)) | ((with_reducible refine and_of ?_ ?_); conv => whnf) | ((with_reducible refine pcI (g := 73) ?_); refine ⟨_, s_CompareTerms .., rfl, ?_⟩; rotate_right; conv => whnf) | ((with_reducible show Exists _); refine Exists.intro _ (And.intro (s_CompareTerms ..) (And.intro rfl ?_)); rotate_right; conv => whnf) | (intro h; conv => whnf))
  all_goals (repeat (clear hK; clear K1))
  all_goals first | rfl | skip
end Vg
