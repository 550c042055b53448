/- Terms are checked: variables and all, by the reference. Condition: names are no longer than a law lets through. -/
import Derived.Test.YtgbjdifegilniaaGreatDoorTermN
import Derived.Test.YtgbjdifegilniaaGreatDoorRet
import Derived.Shelf.Small.Strs
import Derived.Test.YtgbjdifegilniaaGreatDoorBase
namespace Vg
open Go Go.Proofs
set_option maxRecDepth 100000
set_option maxHeartbeats 40000000
section
variable {t : V.Term} {l : List V.Val} {k : Nat}
theorem vs_hit (ho : t.op = 22) (hk : k ≤ l.length ∧ (l.take k).all (fun v => g7 v.name t.name) = true) (h : (k : Int) < l.length) (hl : Op.bytesLess (l.getD (k : Int).toNat K.vals.dflt).name.toList t.name.toList = false) (he : ((l.getD (k : Int).toNat K.vals.dflt).name.toList == t.name.toList) = true) :
    varL t l = (l, (l.getD (k : Int).toNat K.vals.dflt).w == t.w) := by
  rw [eN ho]
  simp only [Int.toNat_natCast] at *
  rw [qde hk h hl (str_eq he)]
  congr 1
theorem vs_mid (ho : t.op = 22) (hk : k ≤ l.length ∧ (l.take k).all (fun v => g7 v.name t.name) = true) (h : (k : Int) < l.length) (hl : Op.bytesLess (l.getD (k : Int).toNat K.vals.dflt).name.toList t.name.toList = false) (he : ((l.getD (k : Int).toNat K.vals.dflt).name.toList == t.name.toList) = false) :
    varL t l = (((([] : List V.Val) ++ l.take k) ++ [⟨t.name, t.w, 0⟩]) ++ l.drop k, true) := by
  rw [eN ho]
  simp only [Int.toNat_natCast] at *
  rw [ins_mid hk h hl (str_ne he)]
  simp
theorem vs_end (ho : t.op = 22) (hk : k ≤ l.length ∧ (l.take k).all (fun v => g7 v.name t.name) = true) (h : ¬ (k : Int) < l.length) : varL t l = (((([] : List V.Val) ++ l.take k) ++ [⟨t.name, t.w, 0⟩]) ++ l.drop k, true) := by
  rw [eN ho, ins_end hk h]
  simp
theorem vs_s (hk : k ≤ l.length ∧ (l.take k).all (fun v => g7 v.name t.name) = true) (h : (k : Int) < l.length) (hl : Op.bytesLess (l.getD (k : Int).toNat K.vals.dflt).name.toList t.name.toList = true) : ((l.take (k + 1)).all fun v => g7 v.name t.name) = true := by
  simp only [Int.toNat_natCast] at *
  exact (ins_s hk h hl).2
end
theorem bnd_v {n b : Nat} (hb : b = 32) (h : n ≤ 1048576) : n * b ≤ 140737488355328 := by subst hb; omega
theorem bnd_m {n : Nat} (h : n ≤ 1048576) : n ≤ maxLen := by
  have hm : maxLen = 9223372036854775807 := rfl
  omega
structure IHVr (t : V.Term) : Prop where
  call : ∀ (op w n : Int) (nm : ByteArray) (ks : List V.Term) (l : List V.Val), sizeT ⟨op, w, n, nm, ks⟩ < sizeT t → l.length + sizeT ⟨op, w, n, nm, ks⟩ ≤ 1048576 →
    CallsV Tryz.prog 29 [.agg [.dat (.i op), .dat (.i w), .dat (.i n), .dat (.str nm), .dat (.seq .terms ks)], .dat (.seq .vals l)] (.tup [.dat (.seq .vals (varL ⟨op, w, n, nm, ks⟩ l).1), .dat (.bool (varL ⟨op, w, n, nm, ks⟩ l).2)])
theorem ih_vr {t : V.Term} (ih : IHVr t) {op w n : Int} {nm : ByteArray} {ks : List V.Term} {l : List V.Val} (hs : sizeT ⟨op, w, n, nm, ks⟩ < sizeT t) (hl : l.length + sizeT ⟨op, w, n, nm, ks⟩ ≤ 1048576) :
    CallsV Tryz.prog 29 [.agg [.dat (.i op), .dat (.i w), .dat (.i n), .dat (.str nm), .dat (.seq .terms ks)], .dat (.seq .vals l)] (.tup [.dat (.seq .vals (varL ⟨op, w, n, nm, ks⟩ l).1), .dat (.bool (varL ⟨op, w, n, nm, ks⟩ l).2)]) := ih.call op w n nm ks l hs hl
theorem qby (t : V.Term) (l : List V.Val) (ih : IHVr t) (hl : l.length + sizeT t ≤ 1048576) : CallsV Tryz.prog 29 [.agg [.dat (.i t.op), .dat (.i t.w), .dat (.i t.n), .dat (.str t.name), .dat (.seq .terms t.kids)], .dat (.seq .vals l)] (.tup [.dat (.seq .vals (varL t l).1), .dat (.bool (varL t l).2)]) := by
  refine oV Tryz.func29 ⟨?_⟩
  repeat' (first | ((with_reducible refine fun (K1 : KT) hK => ?_); refine j6 ⟨?_⟩) | ((with_reducible show K1 _ _); subst hK; conv => whnf) | (with_reducible exact rfl) | refine y5 ⟨?_⟩ | ((with_reducible refine SplS.mk (fun h => ?_) (fun h => ?_)) <;> first | exact a7 | (subst h; conv => whnf) | (conv => whnf)) | refine p3 ⟨?_⟩ ⟨?_⟩ | (refine Exists.intro ({i : Nat // VarI t l i}) (Exists.intro (fun ⟨i, hi⟩ => x5 Tryz.f29.ntmps [(1, .dat (.seq .vals (i8 t.kids l i).1)), (2, .ptr 2 0), (73, .dat (.seq .terms t.kids)), (74, .dat (.i t.kids.length)), (75, .dat (.i i))] [(2, .box [.dat (.i t.op), .dat (.i t.w), .dat (.i t.n), .dat (.str t.name), .dat (.seq .terms t.kids)])]) (Exists.intro (fun ⟨i, hi⟩ => t.kids.length - i) (Exists.intro ⟨0, ?_⟩ (And.intro (SubP.sub (σ := [(2, some 2)]) ⟨⟨rfl, rfl, rfl⟩, ⟨j0 ?_, ⟨rfl, rfl⟩, j0 ?_, j0 ?_, j0 ?_, trivial⟩, ⟨⟨g0 ?_, g0 ?_, g0 ?_, g0 ?_, g0 ?_, trivial⟩, trivial⟩⟩) (fun ⟨i, hi⟩ => ?_))))); rotate_right; conv => whnf) | (refine Exists.intro (⟨i + 1, ?_⟩ : {i : Nat // VarI t l i}) (And.intro ?_ (SubP.sub (σ := [(2, some 2)]) ⟨⟨rfl, rfl, rfl⟩, ⟨j0 ?_, ⟨rfl, rfl⟩, j0 ?_, j0 ?_, j0 ?_, trivial⟩, ⟨⟨g0 ?_, g0 ?_, g0 ?_, g0 ?_, g0 ?_, trivial⟩, trivial⟩⟩))) | (refine Exists.intro ({k : Nat // k ≤ l.length ∧ (l.take k).all (fun v => g7 v.name t.name) = true}) (Exists.intro (fun ⟨k, hk⟩ => x5 Tryz.f29.ntmps [(1, .dat (.seq .vals l)), (2, .ptr 2 0), (6, .dat (.i k))] [(2, .box [.dat (.i t.op), .dat (.i t.w), .dat (.i t.n), .dat (.str t.name), .dat (.seq .terms t.kids)])]) (Exists.intro (fun ⟨k, hk⟩ => l.length - k) (Exists.intro ⟨0, ⟨Nat.zero_le _, rfl⟩⟩ (And.intro (SubP.sub (σ := [(2, some 2)]) ⟨⟨rfl, rfl, rfl⟩, ⟨j0 ?_, ⟨rfl, rfl⟩, j0 ?_, trivial⟩, ⟨⟨g0 ?_, g0 ?_, g0 ?_, g0 ?_, g0 ?_, trivial⟩, trivial⟩⟩) (fun ⟨k, hk⟩ => ?_))))); rotate_right; conv => whnf) | (refine Exists.intro (⟨k + 1, ?_⟩ : {k : Nat // k ≤ l.length ∧ (l.take k).all (fun v => g7 v.name t.name) = true}) (And.intro ?_ (SubP.sub (σ := [(2, some 2)]) ⟨⟨rfl, rfl, rfl⟩, ⟨j0 ?_, ⟨rfl, rfl⟩, j0 ?_, trivial⟩, ⟨⟨g0 ?_, g0 ?_, g0 ?_, g0 ?_, g0 ?_, trivial⟩, trivial⟩⟩))) | ((with_reducible first | refine s0 (g := 29) ?_ | show Exists _); refine ⟨_, ih_vr (ih := by assumption) (hs := ?_) (hl := ?_) .., rfl, ?_⟩; rotate_right; conv => whnf) | (intro h; conv => whnf))
  all_goals repeat clear hK K1
  all_goals first | exact True.intro | exact di_eq (rfl : ((0 : Nat) : Int) = 0) | exact vs_s hk asmR asmR | (refine di_eq ?_; rw [z1 omG omG]; done) | (have hm : maxLen = 9223372036854775807 := rfl; refine di_eq ?_; rw [z1 omG omG]; omega) | (rw [V.Term.eta]; exact xF asmR) | exact varI_0 asmR | exact congrArg (Dat.seq K.vals) (by rw [vTo_0]) | exact (eS hi asmR asmR).1 | exact congrArg (Dat.seq K.vals) (by rw [(eS hi asmR asmR).2]) | exact varI_l hi asmR hl | (have e := vs_hit (show t.op = 22 by with_reducible assumption) hk asmR asmR asmR; first | (show Dat.bool (varL t l).2 = Dat.bool _; rw [e]) | (show Dat.seq K.vals (varL t l).1 = Dat.seq K.vals _; rw [e])) | (have e := (by first | exact vs_mid (show t.op = 22 by with_reducible assumption) hk asmR asmR asmR | exact vs_end (show t.op = 22 by with_reducible assumption) hk asmR : varL t l = (((([] : List V.Val) ++ l.take k) ++ [⟨t.name, t.w, 0⟩]) ++ l.drop k, true)); first | (show Dat.bool (varL t l).2 = Dat.bool _; rw [e]) | (show Dat.seq K.vals (varL t l).1 = Dat.seq K.vals (((([] : List V.Val) ++ l.take k) ++ [⟨t.name, t.w, 0⟩]) ++ l.drop k); rw [e])) | (have e := varI_n hi asmR asmR; first | (show Dat.bool (varL t l).2 = Dat.bool _; rw [e]) | (show List.length (varL t l).1 = 0; rw [e]; rfl)) | (have e := varI_e hi asmR; first | (show Dat.bool (varL t l).2 = Dat.bool _; rw [e]) | (show Dat.seq K.vals (varL t l).1 = Dat.seq K.vals _; rw [e])) | ((first | refine bnd_v rfl ?_ | refine bnd_m ?_); have hs := vN t; have e1 : ((k : Int)).toNat = k := rfl; have e2 : (l.take k).length + (l.drop k).length = l.length := (by simp; omega); first | (show ([] : List V.Val).length + (l.take k).length ≤ _; simp only [List.length_nil]; omega) | (show (([] : List V.Val) ++ (l.take k)).length + ([⟨t.name, t.w, 0⟩] : List V.Val).length ≤ _; simp only [List.length_append, List.length_nil, List.length_cons]; omega) | (show ((([] : List V.Val) ++ (l.take k)) ++ ([⟨t.name, t.w, 0⟩] : List V.Val)).length + (l.drop k).length ≤ _; simp only [List.length_append, List.length_nil, List.length_cons]; omega)) | omega | (dsimp only; omega) | skip
theorem qbz (op w n : Int) (nm : ByteArray) (ks : List V.Term) (l : List V.Val) (hl : l.length + sizeT ⟨op, w, n, nm, ks⟩ ≤ 1048576) :
    CallsV Tryz.prog 29 [.agg [.dat (.i op), .dat (.i w), .dat (.i n), .dat (.str nm), .dat (.seq .terms ks)], .dat (.seq .vals l)] (.tup [.dat (.seq .vals (varL ⟨op, w, n, nm, ks⟩ l).1), .dat (.bool (varL ⟨op, w, n, nm, ks⟩ l).2)]) := by
  have key : ∀ (k : Nat) (t : V.Term) (l : List V.Val), sizeT t < k → l.length + sizeT t ≤ 1048576 →
      CallsV Tryz.prog 29 [.agg [.dat (.i t.op), .dat (.i t.w), .dat (.i t.n), .dat (.str t.name), .dat (.seq .terms t.kids)], .dat (.seq .vals l)] (.tup [.dat (.seq .vals (varL t l).1), .dat (.bool (varL t l).2)]) := by
    intro k
    induction k with
    | zero => intro t _ h; omega
    | succ k ih =>
      intro t l h hl
      exact qby t l ⟨fun op w n nm ks l' hs hl' => ih ⟨op, w, n, nm, ks⟩ l' omG hl'⟩ hl
  exact key _ ⟨op, w, n, nm, ks⟩ l (Nat.lt_succ_self _) hl
section
variable {t : V.Term}
theorem tp_few (h : decide (fewT t 240 ≥ 0) = false) : o8 t = false := by
  rw [iQ] at h
  unfold o8
  rw [h]; rfl
theorem tp_nd (h : okT t = false) : o8 t = false := by
  unfold o8
  rw [h, Bool.and_false]; rfl
theorem tp_sz (h : decide (fewT t 240 ≥ 0) = true) : sizeT t ≤ 240 := by
  rw [iQ] at h
  exact of_decide_eq_true h
theorem tp_y (h : decide (fewT t 240 ≥ 0) = true) (h2 : okT t = true) : o8 t = (varL t []).2 := by
  rw [iQ] at h
  unfold o8
  rw [h, h2, qbg h2]; rfl
end
theorem qb4 (op w n : Int) (nm : ByteArray) (ks : List V.Term) (hn : nmT ⟨op, w, n, nm, ks⟩ = true) : CallsV Tryz.prog 8 [.agg [.dat (.i op), .dat (.i w), .dat (.i n), .dat (.str nm), .dat (.seq .terms ks)]] (.dat (.bool (o8 ⟨op, w, n, nm, ks⟩))) := by
  refine oV Tryz.func8 ⟨?_⟩
  repeat' (first | ((with_reducible refine fun (K1 : KT) hK => ?_); refine j6 ⟨?_⟩) | ((with_reducible show K1 _ _); subst hK; conv => whnf) | (with_reducible exact rfl) | refine y5 ⟨?_⟩ | ((with_reducible refine SplS.mk (fun h => ?_) (fun h => ?_)) <;> first | exact a7 | (subst h; conv => whnf) | (conv => whnf)) | refine p3 ⟨?_⟩ ⟨?_⟩ | ((with_reducible refine j3 (g := 27) ?_); refine ⟨_, _, c_few (hl := ?_) .., zV ?_⟩; rotate_right; conv => whnf) | ((with_reducible first | refine s0 (g := 28) ?_ | show Exists _); refine ⟨_, qb1 (hn := ?_) .., rfl, ?_⟩; rotate_right; conv => whnf) | ((with_reducible first | refine s0 (g := 29) ?_ | show Exists _); refine ⟨_, qbz (hl := ?_) .., rfl, ?_⟩; rotate_right; conv => whnf) | (intro h; conv => whnf))
  all_goals repeat clear hK K1
  all_goals first | exact db_eq (tp_few asmR) | exact db_eq (tp_nd asmR) | exact db_eq (tp_y asmR asmR) | exact hn | decide | (have e := tp_sz (show decide (fewT ⟨op, w, n, nm, ks⟩ 240 ≥ 0) = true by with_reducible assumption); show 0 + _ ≤ 1048576; omega) | skip
section
variable {a b : V.Term} {i : Nat}
end
section
variable {a b : V.Term} {i j : Nat}
abbrev s3 (a b : V.Term) : List Int := [sgn a.op b.op, sgn a.w b.w, sgn a.n b.n]
end
end Vg
