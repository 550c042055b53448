/- Walks and laws that the proof leans on. No condition. -/
import Derived.Test.YtjlffejifadkiaaGreatDoorTermRB
import Derived.Test.YtjlffejifadkiaaGreatDoorRg
namespace Vg
open Go Go.Proofs
set_option maxRecDepth 100000
set_option maxHeartbeats 40000000
theorem qnm (t : V.Term) (ih : IHR (qbe t)) (ht : okT t = true) (ho : t.op = 18) (hc : qb2 t.kids = false) : CallsV Tryz.prog 187 [.agg [.dat (.i t.op), .dat (.i t.w), .dat (.i t.n), .dat (.str t.name), .dat (.seq .terms t.kids)]] (qbj (mkT t)) := by
  refine oV Tryz.func187 ⟨?_⟩
  repeat' (first | ((with_reducible refine fun (K1 : KT) hK => ?_); refine stW ⟨?_⟩) | ((with_reducible show K1 _ _); subst hK; conv => whnf) | (with_reducible refine frG ?_) | (with_reducible exact rfl) | refine stD ⟨?_⟩ | ((with_reducible show WEach _ _); refine qag rfl ?_ ?_; conv => whnf) | refine st0 ⟨?_⟩ | ((with_reducible refine SplS.mk (fun h => ?_) (fun h => ?_)) <;> first | exact ctM | (subst h; conv => whnf) | (conv => whnf)) | refine stB ⟨?_⟩ ⟨?_⟩ | ((with_reducible show Exists _); refine Exists.intro _ (And.intro (i_sameTerm ..) (And.intro rfl ?_)); rotate_right; conv => whnf) | ((with_reducible show Exists _); refine Exists.intro _ (And.intro (i_remake (ih := by assumption) (hk := ?_) (hm := ?_) ..) (And.intro rfl ?_)); rotate_right; conv => whnf) | ((with_reducible refine zcI (g := 206) ?_); (conv => whnf); refine ⟨_, _, i_sameTerm .., rfl, fun res B hRB => ?_⟩; rotate_right; obtain ⟨rfl, rfl⟩ := hRB; conv => whnf) | ((with_reducible refine zcI (g := 207) ?_); (conv => whnf); refine ⟨_, _, i_remake (ih := asmR) (hk := ?_) (hm := ?_) .., rfl, fun res B hRB => ?_⟩; rotate_right; obtain ⟨rfl, rfl⟩ := hRB; conv => whnf) | (intro h; conv => whnf))
  all_goals repeat clear hK K1
  all_goals first | exact True.intro | ((with_reducible show (_ : Int) ≤ _); omega) | ((with_reducible show (_ : Int) < _); first | exact qc5 ht omG | exact qaj ht omG | exact qap ht omG | exact qc5 (ok0 ht omG) omG | exact qaj (ok0 ht omG) omG | exact qap (ok0 ht omG) omG | exact qfv (ok0 ht omG) omG | exact qfu (ok0 ht omG) omG | exact qft (ok0 ht omG) omG | exact qc5 (ok1 ht omG) omG | exact qaj (ok1 ht omG) omG | exact qap (ok1 ht omG) omG | exact qfv (ok1 ht omG) omG | exact qfu (ok1 ht omG) omG | exact qft (ok1 ht omG) omG | omega) | (have c1 := fun h => qh5 (ok1 ht omG) h; have w1 := qdu (ok1 ht omG); have v1 := fun h => qdu (ok0 (ok1 ht omG) h); (simp only [V.Term.eta, Int.toNat_zero, Int.toNat_one, k0, k1, kAt] at *; (try simp only [qac (n := (t.kids.getD 1 K.terms.dflt).n + (t.kids.getD 1 K.terms.dflt).w) omG omG] at *); (try (refine ⟨fr5 (t := mkT t) ?_⟩; (try rw [V.Term.eta]))); first | omega | (obtain ⟨y, hr⟩ : ∃ y, qdk t = y := ⟨_, rfl⟩; have hz := hr; unfold qdk redJ at hz; simp only [k0, k1, kAt] at hz; (repeat (first | rw [if_pos omG] at hz | rw [if_neg omG] at hz | rw [if_pos (by unfold qam; omega)] at hz | rw [if_neg (by unfold qam; omega)] at hz)); rw [← hz] at hr; (try rw [ho] at hr); first | exact qi4 ht omG hc hr | exact ⟨fr5n (t := mkT t) (qi4 ht omG hc hr)⟩ | exact (qcc ht omG hr).1 | exact (qcc ht omG hr).2))) | skip
end Vg

namespace Vg
open Go Go.Proofs
set_option maxRecDepth 100000
set_option maxHeartbeats 40000000
/-! ### a constant as the first kid -/
abbrev zT : V.Term := ⟨0, 0, 0, ByteArray.empty, []⟩
def qae (op w : Int) (a b : V.Term) : Option V.Term :=
  if (op = 3 ∧ a.n = 0) ∨ (op = 5 ∧ a.n = 1) ∨ (op = 8 ∧ a.n = onW a.w) ∨ (op = 9 ∧ a.n = 0) ∨ (op = 10 ∧ a.n = 0) ∨ (op = 14 ∧ a.w = 1 ∧ a.n = 1) then some b
  else if (op = 5 ∧ a.n = 0) ∨ (op = 8 ∧ a.n = 0) then some (cT w 0)
  else if op = 9 ∧ a.n = onW a.w then some (cT w (onW a.w))
  else if (op = 10 ∧ a.n = onW a.w) ∨ (op = 14 ∧ a.w = 1 ∧ a.n = 0) then some (mkT (oT 1 w 0 [b]))
  else none
structure FirstNo (op : Int) (a : V.Term) : Prop where
  n1 : ¬ ((op = 3 ∧ a.n = 0) ∨ (op = 5 ∧ a.n = 1) ∨ (op = 8 ∧ a.n = onW a.w) ∨ (op = 9 ∧ a.n = 0) ∨ (op = 10 ∧ a.n = 0) ∨ (op = 14 ∧ a.w = 1 ∧ a.n = 1))
  n2 : ¬ ((op = 5 ∧ a.n = 0) ∨ (op = 8 ∧ a.n = 0))
  n3 : ¬ (op = 9 ∧ a.n = onW a.w)
  n4 : ¬ ((op = 10 ∧ a.n = onW a.w) ∨ (op = 14 ∧ a.w = 1 ∧ a.n = 0))
theorem first_no {op w : Int} {a b : V.Term} (h : (qae op w a b).isSome = false) : FirstNo op a := by
  unfold qae at h
  by_cases c1 : ((op = 3 ∧ a.n = 0) ∨ (op = 5 ∧ a.n = 1) ∨ (op = 8 ∧ a.n = onW a.w) ∨ (op = 9 ∧ a.n = 0) ∨ (op = 10 ∧ a.n = 0) ∨ (op = 14 ∧ a.w = 1 ∧ a.n = 1))
  · rw [if_pos c1] at h; cases h
  rw [if_neg c1] at h
  by_cases c2 : ((op = 5 ∧ a.n = 0) ∨ (op = 8 ∧ a.n = 0))
  · rw [if_pos c2] at h; cases h
  rw [if_neg c2] at h
  by_cases c3 : (op = 9 ∧ a.n = onW a.w)
  · rw [if_pos c3] at h; cases h
  rw [if_neg c3] at h
  by_cases c4 : ((op = 10 ∧ a.n = onW a.w) ∨ (op = 14 ∧ a.w = 1 ∧ a.n = 0))
  · rw [if_pos c4] at h; cases h
  exact ⟨c1, c2, c3, c4⟩
theorem first_is {t : V.Term} (ht : okT t = true) (ho : 3 ≤ t.op ∧ t.op ≤ 16) (hc : qb2 t.kids = false) (hs : ¬ (qam t.op ∧ cmpT (k0 t) (k1 t) = 1)) (h0 : (k0 t).op = 0) (h : (qae t.op t.w (k0 t) (k1 t)).isSome = true) : mkT t = (qae t.op t.w (k0 t) (k1 t)).getD zT := by
  have hb : qdk t = qca t := by unfold qdk; rw [if_neg omG, if_neg omG, if_neg omG, if_neg omG, if_neg omG]
  unfold qae at h ⊢
  by_cases c1 : ((t.op = 3 ∧ (k0 t).n = 0) ∨ (t.op = 5 ∧ (k0 t).n = 1) ∨ (t.op = 8 ∧ (k0 t).n = onW (k0 t).w) ∨ (t.op = 9 ∧ (k0 t).n = 0) ∨ (t.op = 10 ∧ (k0 t).n = 0) ∨ (t.op = 14 ∧ (k0 t).w = 1 ∧ (k0 t).n = 1))
  · have hr : qdk t = (k1 t, false) := by rw [hb]; unfold qca; rw [if_neg hs, if_pos ⟨h0, c1⟩]
    rw [qi4 ht omG hc hr, if_pos c1]; rfl
  rw [if_neg c1] at h ⊢
  by_cases c2 : ((t.op = 5 ∧ (k0 t).n = 0) ∨ (t.op = 8 ∧ (k0 t).n = 0))
  · have hr : qdk t = (cT t.w 0, false) := by rw [hb]; unfold qca; rw [if_neg hs, if_neg (fun k => c1 k.2), if_pos ⟨h0, c2⟩]
    rw [qi4 ht omG hc hr, if_pos c2]; rfl
  rw [if_neg c2] at h ⊢
  by_cases c3 : (t.op = 9 ∧ (k0 t).n = onW (k0 t).w)
  · have hr : qdk t = (cT t.w (onW (k0 t).w), false) := by rw [hb]; unfold qca; rw [if_neg hs, if_neg (fun k => c1 k.2), if_neg (fun k => c2 k.2), if_pos ⟨h0, c3⟩]
    rw [qi4 ht omG hc hr, if_pos c3]; rfl
  rw [if_neg c3] at h ⊢
  by_cases c4 : ((t.op = 10 ∧ (k0 t).n = onW (k0 t).w) ∨ (t.op = 14 ∧ (k0 t).w = 1 ∧ (k0 t).n = 0))
  · have hr : qdk t = (oT 1 t.w 0 [k1 t], true) := by rw [hb]; unfold qca; rw [if_neg hs, if_neg (fun k => c1 k.2), if_neg (fun k => c2 k.2), if_neg (fun k => c3 k.2), if_pos ⟨h0, c4⟩]
    rw [qi4 ht omG hc hr, if_pos c4]; rfl
  rw [if_neg c4] at h
  cases h
theorem first_ok {t : V.Term} (ht : okT t = true) (ho : 3 ≤ t.op ∧ t.op ≤ 16) (hs : ¬ (qam t.op ∧ cmpT (k0 t) (k1 t) = 1)) (h0 : (k0 t).op = 0) (c4 : (t.op = 10 ∧ (k0 t).n = onW (k0 t).w) ∨ (t.op = 14 ∧ (k0 t).w = 1 ∧ (k0 t).n = 0)) (c1 : ¬ (t.op = 10 ∧ (k0 t).n = 0)) :
    okT (oT 1 t.w 0 [k1 t]) = true ∧ qbe (oT 1 t.w 0 [k1 t]) < qbe t := by
  have hb : qdk t = qca t := by unfold qdk; rw [if_neg omG, if_neg omG, if_neg omG, if_neg omG, if_neg omG]
  refine qcc ht omG ?_
  rw [hb]
  unfold qca
  rw [if_neg hs, if_neg omG, if_neg omG, if_neg omG, if_pos ⟨h0, c4⟩]
theorem on_word {w : Int} (h : inP w 1 16 = true) : wordP w (onW w) = true := by
  have F := wf h
  have h3 := F.s3
  exact qcx h (by show 0 ≤ (2 : Int) ^ w.toNat - 1; omega) (by show (2 : Int) ^ w.toNat - 1 < _; omega)
theorem qpe {B : List Blk} {X : AV} {op w : Int} {a b : V.Term} (h : ∀ y, qae op w a b = y → frzM B (.dat (.bool y.isSome)) X) : frzM B (.dat (.bool (qae op w a b).isSome)) X := h _ rfl
theorem ft_y {B : List Blk} {X : AV} {op w : Int} {a b : V.Term} (h : ∀ y, qae op w a b = y → frzM B (qbj (y.getD zT)) X) : frzM B (qbj ((qae op w a b).getD zT)) X := h _ rfl
theorem ql7 (op w : Int) (a b : V.Term) (m : Nat) (ih : IHR m) (ha : inP a.w 1 16 = true) (hw : inP w 1 16 = true) (h9 : op = 9 → w = a.w) (hk : (op = 10 ∧ a.n = onW a.w) ∨ (op = 14 ∧ a.w = 1 ∧ a.n = 0) → ¬ (op = 10 ∧ a.n = 0) → okT (oT 1 w 0 [b]) = true ∧ qbe (oT 1 w 0 [b]) < m) : CallsV Tryz.prog 210 [.dat (.i op), .dat (.i w), .agg [.dat (.i a.op), .dat (.i a.w), .dat (.i a.n), .dat (.str a.name), .dat (.seq .terms a.kids)], .agg [.dat (.i b.op), .dat (.i b.w), .dat (.i b.n), .dat (.str b.name), .dat (.seq .terms b.kids)]] (.tup [qbj ((qae op w a b).getD zT), .dat (.bool (qae op w a b).isSome)]) := by
  refine oV Tryz.func210 ⟨?_⟩
  repeat' (first | ((with_reducible refine fun (K1 : KT) hK => ?_); refine stW ⟨?_⟩) | ((with_reducible show K1 _ _); subst hK; conv => whnf) | (with_reducible exact rfl) | refine st0 ⟨?_⟩ | ((with_reducible refine SplS.mk (fun h => ?_) (fun h => ?_)) <;> first | exact ctM | (subst h; conv => whnf) | (conv => whnf)) | refine stB ⟨?_⟩ ⟨?_⟩ | ((with_reducible first | refine pcI (g := 217) ?_ | show Exists _); refine ⟨_, i_onesOf (hw := ?_) .., rfl, ?_⟩; rotate_right; conv => whnf) | ((with_reducible first | refine pcI (g := 103) ?_ | show Exists _); refine ⟨_, i_ConstTerm (h := ?_) .., rfl, ?_⟩; rotate_right; conv => whnf) | ((with_reducible first | refine pcI (g := 207) ?_ | show Exists _); refine ⟨_, i_remake (ih := by assumption) (hk := ?_) (hm := ?_) .., rfl, ?_⟩; rotate_right; conv => whnf) | ((with_reducible refine zcI (g := 217) ?_); (conv => whnf); refine ⟨_, _, i_onesOf (hw := ?_) .., rfl, fun res B hRB => ?_⟩; rotate_right; obtain ⟨rfl, rfl⟩ := hRB; conv => whnf) | ((with_reducible refine zcI (g := 103) ?_); (conv => whnf); refine ⟨_, _, i_ConstTerm (h := ?_) .., rfl, fun res B hRB => ?_⟩; rotate_right; obtain ⟨rfl, rfl⟩ := hRB; conv => whnf) | ((with_reducible refine zcI (g := 207) ?_); (conv => whnf); refine ⟨_, _, i_remake (ih := asmR) (hk := ?_) (hm := ?_) .., rfl, fun res B hRB => ?_⟩; rotate_right; obtain ⟨rfl, rfl⟩ := hRB; conv => whnf) | (intro h; conv => whnf))
  all_goals repeat clear hK K1
  all_goals first | exact True.intro | exact ha | exact zero_word hw | (have e := h9 rfl; rw [e]; exact on_word ha) | (rw [V.Term.eta]; first | exact (hk (.inl ⟨rfl, by with_reducible assumption⟩) omG).1 | exact (hk (.inl ⟨rfl, by with_reducible assumption⟩) omG).2 | exact (hk (.inr ⟨rfl, by with_reducible assumption, by with_reducible assumption⟩) omG).1 | exact (hk (.inr ⟨rfl, by with_reducible assumption, by with_reducible assumption⟩) omG).2) | ((try simp only [V.Term.eta, onW] at *); first | ((first | refine qpe fun y hz => ?_ | refine ft_y fun y hz => ?_); clear hk h9; unfold qae onW at hz; (repeat (first | rw [if_pos omG] at hz | rw [if_neg omG] at hz)); subst hz; first | exact rfl | exact fr5M (V.Term.eta _).symm | exact fr5M rfl | exact fr5Mn rfl)) | skip
end Vg

namespace Vg
open Go Go.Proofs
def qbg (t : V.Term) : V.Term × Bool :=
  if (k1 t).op = 0 ∧ (k1 t).n = 0 ∧ (t.op = 4 ∨ t.op = 11 ∨ t.op = 12 ∨ t.op = 13) then (k0 t, false)
  else if (k1 t).op = 0 ∧ (k1 t).n = 0 ∧ t.op = 15 then (cT 1 0, false)
  else if cmpT (k0 t) (k1 t) = 0 ∧ (t.op = 8 ∨ t.op = 9) then (k0 t, false)
  else if cmpT (k0 t) (k1 t) = 0 ∧ (t.op = 4 ∨ t.op = 10 ∨ t.op = 15 ∨ t.op = 16) then (cT t.w 0, false)
  else if cmpT (k0 t) (k1 t) = 0 ∧ t.op = 14 then (cT 1 1, false)
  else if (qam t.op ∧ t.op ≠ 14) ∧ (k0 t).op = 0 ∧ (k1 t).op = t.op ∧ (k0 (k1 t)).op = 0 then (oT t.op t.w 0 [cT t.w (qa2 t.op t.w (k0 t).n (k0 (k1 t)).n), k1 (k1 t)], true)
  else (t, false)
theorem redS_b {t : V.Term} (ho : 3 ≤ t.op ∧ t.op ≤ 16) : qdk t = qca t := by
  unfold qdk
  rw [if_neg omG, if_neg omG, if_neg omG, if_neg omG, if_neg omG]
theorem qg9 {t : V.Term} (hs : qam t.op) (hc : cmpT (k0 t) (k1 t) = 1) : qca t = (oT t.op t.w 0 [k1 t, k0 t], true) := by
  unfold qca
  rw [if_pos ⟨hs, hc⟩]
theorem qbn {t : V.Term} (hs : ¬ (qam t.op ∧ cmpT (k0 t) (k1 t) = 1)) (h0 : ¬ (k0 t).op = 0) : qca t = qbg t := by
  unfold qca qbg
  rw [if_neg hs, if_neg (fun q => h0 q.1), if_neg (fun q => h0 q.1), if_neg (fun q => h0 q.1), if_neg (fun q => h0 q.1)]
theorem qdl {t : V.Term} (hs : ¬ (qam t.op ∧ cmpT (k0 t) (k1 t) = 1)) (hf : (qae t.op t.w (k0 t) (k1 t)).isSome = false) : qca t = qbg t := by
  have f := first_no hf
  unfold qca qbg
  rw [if_neg hs, if_neg (fun q => f.n1 q.2), if_neg (fun q => f.n2 q.2), if_neg (fun q => f.n3 q.2), if_neg (fun q => f.n4 q.2)]
theorem qbt {t x : V.Term} (ht : okT t = true) (ho : 3 ≤ t.op ∧ t.op ≤ 16) (hc : qb2 t.kids = false) (hr : qca t = (x, false)) : mkT t = x := by
  have := qi4 ht omG hc ((redS_b ho).trans hr)
  rwa [if_neg Bool.false_ne_true] at this
theorem qd0 {t x : V.Term} (ht : okT t = true) (ho : 3 ≤ t.op ∧ t.op ≤ 16) (hc : qb2 t.kids = false) (hr : qca t = (x, true)) : mkT t = mkT x := by
  have := qi4 ht omG hc ((redS_b ho).trans hr)
  rwa [if_pos rfl] at this
theorem qb7 {t x : V.Term} (ht : okT t = true) (ho : 3 ≤ t.op ∧ t.op ≤ 16) (hr : qca t = (x, true)) : okT x = true ∧ qbe x < qbe t := qcc ht omG ((redS_b ho).trans hr)
structure FK (op w : Int) (a b : V.Term) (m : Nat) : Prop where
  h : (op = 10 ∧ a.n = onW a.w) ∨ (op = 14 ∧ a.w = 1 ∧ a.n = 0) → ¬ (op = 10 ∧ a.n = 0) → okT (oT 1 w 0 [b]) = true ∧ qbe (oT 1 w 0 [b]) < m
structure F9 (op w w' : Int) : Prop where
  h : op = 9 → w = w'
theorem qbv (op w : Int) (a b : V.Term) (m : Nat) (ih : IHR m) (ha : inP a.w 1 16 = true) (hw : inP w 1 16 = true) (h9 : F9 op w a.w) (hk : FK op w a b m) :
    CallsV Tryz.prog 210 [.dat (.i op), .dat (.i w), .agg [.dat (.i a.op), .dat (.i a.w), .dat (.i a.n), .dat (.str a.name), .dat (.seq .terms a.kids)], .agg [.dat (.i b.op), .dat (.i b.w), .dat (.i b.n), .dat (.str b.name), .dat (.seq .terms b.kids)]]
      (.tup [qbj ((qae op w a b).getD zT), .dat (.bool (qae op w a b).isSome)]) := ql7 op w a b m ih ha hw h9.h hk.h
theorem qgu {k : Int} {t : V.Term} (ht : okT t = true) (ho : t.op = k) (h3 : 3 ≤ k ∧ k ≤ 16) (hs : ¬ (qam t.op ∧ cmpT (k0 t) (k1 t) = 1)) (h0 : (k0 t).op = 0) : FK k t.w (k0 t) (k1 t) (qbe t) := by
  subst ho
  exact ⟨fun c4 c1 => first_ok ht h3 hs h0 c4 c1⟩
theorem qgx {k : Int} {t : V.Term} (ht : okT t = true) (ho : t.op = k) (h3 : 3 ≤ k ∧ k ≤ 16) : F9 k t.w (k0 t).w := by
  subst ho
  exact ⟨fun e => (fit_b ht omG).1.symm⟩
theorem qf0 {k : Int} {t : V.Term} (ht : okT t = true) (ho : t.op = k) (h3 : 3 ≤ k ∧ k ≤ 16) (hc : qb2 t.kids = false) (hs : ¬ (qam t.op ∧ cmpT (k0 t) (k1 t) = 1)) (h0 : (k0 t).op = 0) (h : (qae k t.w (k0 t) (k1 t)).isSome = true) : mkT t = (qae k t.w (k0 t) (k1 t)).getD zT := by
  subst ho
  exact first_is ht h3 hc hs h0 h
theorem ns_3 {t : V.Term} (h : ¬ cmpT (k0 t) (k1 t) = 1) : ¬ (qam t.op ∧ cmpT (k0 t) (k1 t) = 1) := fun q => h q.2
theorem sw_3 {t : V.Term} (ho : t.op = 3) (h : cmpT (k0 t) (k1 t) = 1) : qca t = (oT 3 t.w 0 [k1 t, k0 t], true) := by
  rw [qg9 (by unfold qam; omega) h, ho]
theorem n1_3 {t : V.Term} (ho : t.op = 3) (hs : ¬ (qam t.op ∧ cmpT (k0 t) (k1 t) = 1)) (hf : (qae 3 t.w (k0 t) (k1 t)).isSome = false) : qca t = qbg t := qdl hs (by rw [ho]; exact hf)
theorem r2_3 {t : V.Term} (ho : t.op = 3) : qbg t = if ((k0 t).op = 0 ∧ (k1 t).op = 3 ∧ (k0 (k1 t)).op = 0) then (oT 3 t.w 0 [cT t.w (qa2 3 t.w (k0 t).n (k0 (k1 t)).n), k1 (k1 t)], true) else (t, false) := by
  unfold qbg qam
  rw [ho]
  simp
theorem ns_4 {t : V.Term} (ho : t.op = 4) : ¬ (qam t.op ∧ cmpT (k0 t) (k1 t) = 1) := by unfold qam; omega
theorem n1_4 {t : V.Term} (ho : t.op = 4) (hs : ¬ (qam t.op ∧ cmpT (k0 t) (k1 t) = 1)) (hf : (qae 4 t.w (k0 t) (k1 t)).isSome = false) : qca t = qbg t := qdl hs (by rw [ho]; exact hf)
theorem r2_4 {t : V.Term} (ho : t.op = 4) : qbg t = if ((k1 t).op = 0 ∧ (k1 t).n = 0) then (k0 t, false) else if cmpT (k0 t) (k1 t) = 0 then (cT t.w 0, false) else (t, false) := by
  unfold qbg qam
  rw [ho]
  simp
theorem ns_5 {t : V.Term} (h : ¬ cmpT (k0 t) (k1 t) = 1) : ¬ (qam t.op ∧ cmpT (k0 t) (k1 t) = 1) := fun q => h q.2
theorem sw_5 {t : V.Term} (ho : t.op = 5) (h : cmpT (k0 t) (k1 t) = 1) : qca t = (oT 5 t.w 0 [k1 t, k0 t], true) := by
  rw [qg9 (by unfold qam; omega) h, ho]
theorem n1_5 {t : V.Term} (ho : t.op = 5) (hs : ¬ (qam t.op ∧ cmpT (k0 t) (k1 t) = 1)) (hf : (qae 5 t.w (k0 t) (k1 t)).isSome = false) : qca t = qbg t := qdl hs (by rw [ho]; exact hf)
theorem r2_5 {t : V.Term} (ho : t.op = 5) : qbg t = if ((k0 t).op = 0 ∧ (k1 t).op = 5 ∧ (k0 (k1 t)).op = 0) then (oT 5 t.w 0 [cT t.w (qa2 5 t.w (k0 t).n (k0 (k1 t)).n), k1 (k1 t)], true) else (t, false) := by
  unfold qbg qam
  rw [ho]
  simp
theorem ns_6 {t : V.Term} (ho : t.op = 6) : ¬ (qam t.op ∧ cmpT (k0 t) (k1 t) = 1) := by unfold qam; omega
theorem n1_6 {t : V.Term} (ho : t.op = 6) (hs : ¬ (qam t.op ∧ cmpT (k0 t) (k1 t) = 1)) (hf : (qae 6 t.w (k0 t) (k1 t)).isSome = false) : qca t = qbg t := qdl hs (by rw [ho]; exact hf)
theorem r2_6 {t : V.Term} (ho : t.op = 6) : qbg t = (t, false) := by
  unfold qbg qam
  rw [ho]
  simp
theorem ns_7 {t : V.Term} (ho : t.op = 7) : ¬ (qam t.op ∧ cmpT (k0 t) (k1 t) = 1) := by unfold qam; omega
theorem n1_7 {t : V.Term} (ho : t.op = 7) (hs : ¬ (qam t.op ∧ cmpT (k0 t) (k1 t) = 1)) (hf : (qae 7 t.w (k0 t) (k1 t)).isSome = false) : qca t = qbg t := qdl hs (by rw [ho]; exact hf)
theorem r2_7 {t : V.Term} (ho : t.op = 7) : qbg t = (t, false) := by
  unfold qbg qam
  rw [ho]
  simp
theorem ns_8 {t : V.Term} (h : ¬ cmpT (k0 t) (k1 t) = 1) : ¬ (qam t.op ∧ cmpT (k0 t) (k1 t) = 1) := fun q => h q.2
theorem sw_8 {t : V.Term} (ho : t.op = 8) (h : cmpT (k0 t) (k1 t) = 1) : qca t = (oT 8 t.w 0 [k1 t, k0 t], true) := by
  rw [qg9 (by unfold qam; omega) h, ho]
theorem n1_8 {t : V.Term} (ho : t.op = 8) (hs : ¬ (qam t.op ∧ cmpT (k0 t) (k1 t) = 1)) (hf : (qae 8 t.w (k0 t) (k1 t)).isSome = false) : qca t = qbg t := qdl hs (by rw [ho]; exact hf)
theorem r2_8 {t : V.Term} (ho : t.op = 8) : qbg t = if cmpT (k0 t) (k1 t) = 0 then (k0 t, false) else if ((k0 t).op = 0 ∧ (k1 t).op = 8 ∧ (k0 (k1 t)).op = 0) then (oT 8 t.w 0 [cT t.w (qa2 8 t.w (k0 t).n (k0 (k1 t)).n), k1 (k1 t)], true) else (t, false) := by
  unfold qbg qam
  rw [ho]
  simp
theorem ns_9 {t : V.Term} (h : ¬ cmpT (k0 t) (k1 t) = 1) : ¬ (qam t.op ∧ cmpT (k0 t) (k1 t) = 1) := fun q => h q.2
theorem sw_9 {t : V.Term} (ho : t.op = 9) (h : cmpT (k0 t) (k1 t) = 1) : qca t = (oT 9 t.w 0 [k1 t, k0 t], true) := by
  rw [qg9 (by unfold qam; omega) h, ho]
theorem n1_9 {t : V.Term} (ho : t.op = 9) (hs : ¬ (qam t.op ∧ cmpT (k0 t) (k1 t) = 1)) (hf : (qae 9 t.w (k0 t) (k1 t)).isSome = false) : qca t = qbg t := qdl hs (by rw [ho]; exact hf)
theorem r2_9 {t : V.Term} (ho : t.op = 9) : qbg t = if cmpT (k0 t) (k1 t) = 0 then (k0 t, false) else if ((k0 t).op = 0 ∧ (k1 t).op = 9 ∧ (k0 (k1 t)).op = 0) then (oT 9 t.w 0 [cT t.w (qa2 9 t.w (k0 t).n (k0 (k1 t)).n), k1 (k1 t)], true) else (t, false) := by
  unfold qbg qam
  rw [ho]
  simp
theorem qnb {t : V.Term} (h : ¬ cmpT (k0 t) (k1 t) = 1) : ¬ (qam t.op ∧ cmpT (k0 t) (k1 t) = 1) := fun q => h q.2
theorem sw_10 {t : V.Term} (ho : t.op = 10) (h : cmpT (k0 t) (k1 t) = 1) : qca t = (oT 10 t.w 0 [k1 t, k0 t], true) := by
  rw [qg9 (by unfold qam; omega) h, ho]
theorem n1_10 {t : V.Term} (ho : t.op = 10) (hs : ¬ (qam t.op ∧ cmpT (k0 t) (k1 t) = 1)) (hf : (qae 10 t.w (k0 t) (k1 t)).isSome = false) : qca t = qbg t := qdl hs (by rw [ho]; exact hf)
theorem r2_10 {t : V.Term} (ho : t.op = 10) : qbg t = if cmpT (k0 t) (k1 t) = 0 then (cT t.w 0, false) else if ((k0 t).op = 0 ∧ (k1 t).op = 10 ∧ (k0 (k1 t)).op = 0) then (oT 10 t.w 0 [cT t.w (qa2 10 t.w (k0 t).n (k0 (k1 t)).n), k1 (k1 t)], true) else (t, false) := by
  unfold qbg qam
  rw [ho]
  simp
theorem qna {t : V.Term} (ho : t.op = 11) : ¬ (qam t.op ∧ cmpT (k0 t) (k1 t) = 1) := by unfold qam; omega
theorem n1_11 {t : V.Term} (ho : t.op = 11) (hs : ¬ (qam t.op ∧ cmpT (k0 t) (k1 t) = 1)) (hf : (qae 11 t.w (k0 t) (k1 t)).isSome = false) : qca t = qbg t := qdl hs (by rw [ho]; exact hf)
theorem r2_11 {t : V.Term} (ho : t.op = 11) : qbg t = if ((k1 t).op = 0 ∧ (k1 t).n = 0) then (k0 t, false) else (t, false) := by
  unfold qbg qam
  rw [ho]
  simp
theorem qm9 {t : V.Term} (ho : t.op = 12) : ¬ (qam t.op ∧ cmpT (k0 t) (k1 t) = 1) := by unfold qam; omega
theorem n1_12 {t : V.Term} (ho : t.op = 12) (hs : ¬ (qam t.op ∧ cmpT (k0 t) (k1 t) = 1)) (hf : (qae 12 t.w (k0 t) (k1 t)).isSome = false) : qca t = qbg t := qdl hs (by rw [ho]; exact hf)
theorem r2_12 {t : V.Term} (ho : t.op = 12) : qbg t = if ((k1 t).op = 0 ∧ (k1 t).n = 0) then (k0 t, false) else (t, false) := by
  unfold qbg qam
  rw [ho]
  simp
theorem qm8 {t : V.Term} (ho : t.op = 13) : ¬ (qam t.op ∧ cmpT (k0 t) (k1 t) = 1) := by unfold qam; omega
theorem n1_13 {t : V.Term} (ho : t.op = 13) (hs : ¬ (qam t.op ∧ cmpT (k0 t) (k1 t) = 1)) (hf : (qae 13 t.w (k0 t) (k1 t)).isSome = false) : qca t = qbg t := qdl hs (by rw [ho]; exact hf)
theorem r2_13 {t : V.Term} (ho : t.op = 13) : qbg t = if ((k1 t).op = 0 ∧ (k1 t).n = 0) then (k0 t, false) else (t, false) := by
  unfold qbg qam
  rw [ho]
  simp
theorem qm7 {t : V.Term} (h : ¬ cmpT (k0 t) (k1 t) = 1) : ¬ (qam t.op ∧ cmpT (k0 t) (k1 t) = 1) := fun q => h q.2
theorem sw_14 {t : V.Term} (ho : t.op = 14) (h : cmpT (k0 t) (k1 t) = 1) : qca t = (oT 14 t.w 0 [k1 t, k0 t], true) := by
  rw [qg9 (by unfold qam; omega) h, ho]
theorem n1_14 {t : V.Term} (ho : t.op = 14) (hs : ¬ (qam t.op ∧ cmpT (k0 t) (k1 t) = 1)) (hf : (qae 14 t.w (k0 t) (k1 t)).isSome = false) : qca t = qbg t := qdl hs (by rw [ho]; exact hf)
theorem r2_14 {t : V.Term} (ho : t.op = 14) : qbg t = if cmpT (k0 t) (k1 t) = 0 then (cT 1 1, false) else (t, false) := by
  unfold qbg qam
  rw [ho]
  simp
theorem qm6 {t : V.Term} (ho : t.op = 15) : ¬ (qam t.op ∧ cmpT (k0 t) (k1 t) = 1) := by unfold qam; omega
theorem n1_15 {t : V.Term} (ho : t.op = 15) (hs : ¬ (qam t.op ∧ cmpT (k0 t) (k1 t) = 1)) (hf : (qae 15 t.w (k0 t) (k1 t)).isSome = false) : qca t = qbg t := qdl hs (by rw [ho]; exact hf)
theorem r2_15 {t : V.Term} (ho : t.op = 15) : qbg t = if ((k1 t).op = 0 ∧ (k1 t).n = 0) then (cT 1 0, false) else if cmpT (k0 t) (k1 t) = 0 then (cT t.w 0, false) else (t, false) := by
  unfold qbg qam
  rw [ho]
  simp
theorem qm5 {t : V.Term} (ho : t.op = 16) : ¬ (qam t.op ∧ cmpT (k0 t) (k1 t) = 1) := by unfold qam; omega
theorem n1_16 {t : V.Term} (ho : t.op = 16) (hs : ¬ (qam t.op ∧ cmpT (k0 t) (k1 t) = 1)) (hf : (qae 16 t.w (k0 t) (k1 t)).isSome = false) : qca t = qbg t := qdl hs (by rw [ho]; exact hf)
theorem r2_16 {t : V.Term} (ho : t.op = 16) : qbg t = if cmpT (k0 t) (k1 t) = 0 then (cT t.w 0, false) else (t, false) := by
  unfold qbg qam
  rw [ho]
  simp
theorem te_of {k : Int} {t : V.Term} (ho : t.op = k) : t = ⟨k, t.w, t.n, t.name, t.kids⟩ := by rw [← ho]; exact (V.Term.eta t).symm
theorem qg3 {k : Int} {t : V.Term} (ht : okT t = true) (ho : t.op = k) (h3 : 3 ≤ k ∧ k ≤ 10) (h0 : (k0 t).op = 0) (h1 : (k1 t).op = k) (h2 : (k0 (k1 t)).op = 0) : wordP t.w (qa2 k t.w (k0 t).n (k0 (k1 t)).n) = true := by
  have e := fit_b ht omG
  have a1 := ok1 ht omG
  have f := fit_b a1 omG
  have w0 := qeg (ok0 ht omG) h0
  have w1 := qeg (ok0 a1 omG) h2
  rw [e.1] at w0
  rw [f.1, e.2] at w1
  exact qf4 omG w0 w1
theorem qbq {a b c : Prop} (h : ¬ a) : ¬ (a ∧ b ∧ c) := fun q => h q.1
theorem qbp {a b c : Prop} (h : ¬ b) : ¬ (a ∧ b ∧ c) := fun q => h q.2.1
theorem qbo {a b c : Prop} (h : ¬ c) : ¬ (a ∧ b ∧ c) := fun q => h q.2.2
end Vg
