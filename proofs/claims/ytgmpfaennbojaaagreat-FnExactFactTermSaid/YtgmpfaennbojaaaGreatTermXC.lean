/- Walks and laws that the proof leans on. No condition. -/
import Derived.Test.YtgmpfaennbojaaaGreatTermRB
import Derived.Test.YtgmpfaennbojaaaGreatRg
namespace Vg
open Go Go.Proofs
set_option maxHeartbeats 8000000 in
set_option maxRecDepth 100000 in
theorem i_reduceJoin (t : V.Term) (ih : IHR (meas t)) (ht : okT t = true) (ho : t.op = 18) (hc : allC t.kids = false) : CallsV Tryz.prog 89 [.agg [.dat (.i t.op), .dat (.i t.w), .dat (.i t.n), .dat (.str t.name), .dat (.seq .terms t.kids)]] (datT (mkT t)) := by
  refine CallsV.of_awp tauOk mixOk Tryz.func89 rfl rfl rfl ?_
  conv => whnf
  repeat' (first | ((with_reducible refine fun (K1 : AX → AState → Prop) hK => ?_); refine stW ⟨?_⟩) | ((with_reducible show K1 _ _); subst hK; conv => whnf) | (with_reducible refine frG ?_) | (with_reducible exact rfl) | refine stD ⟨?_⟩ | ((with_reducible show WEach _ _); refine WEach_more rfl ?_ ?_; conv => whnf) | refine st0 ⟨?_⟩ | ((with_reducible refine SplS.mk (fun h => ?_) (fun h => ?_)) <;> first | exact ctA | (subst h; conv => whnf) | (conv => whnf)) | ((with_reducible refine SplB.mk (fun h => ?_) (fun h => ?_)) <;> first | exact ctR | (conv => whnf)) | (with_reducible first | refine bnd2 ?_ ?_ | refine bnd2' ?_ ?_ | refine bndN ?_ ?_) | ((with_reducible refine and_of ?_ ?_); conv => whnf) | ((with_reducible show Exists _); refine Exists.intro _ (And.intro (i_sameTerm ..) (And.intro rfl ?_)); rotate_right; conv => whnf) | ((with_reducible show Exists _); refine Exists.intro _ (And.intro (i_remake (ih := by assumption) (hk := ?_) (hm := ?_) ..) (And.intro rfl ?_)); rotate_right; conv => whnf) | ((with_reducible refine zcI (g := 103) ?_); (conv => whnf); refine ⟨_, _, i_sameTerm .., rfl, fun res B hRB => ?_⟩; rotate_right; obtain ⟨rfl, rfl⟩ := hRB; conv => whnf) | ((with_reducible refine zcI (g := 104) ?_); (conv => whnf); refine ⟨_, _, i_remake (ih := by with_reducible assumption) (hk := ?_) (hm := ?_) .., rfl, fun res B hRB => ?_⟩; rotate_right; obtain ⟨rfl, rfl⟩ := hRB; conv => whnf) | (intro h; conv => whnf))
  all_goals (repeat (clear hK; clear K1))
  all_goals first | exact True.intro | ((with_reducible show (_ : Int) ≤ _); omega) | ((with_reducible show (_ : Int) < _); first | exact lt_u0 ht (by omega) | exact lt_b0 ht (by omega) | exact lt_b1 ht (by omega) | exact lt_u0 (ok0 ht (by omega)) (by omega) | exact lt_b0 (ok0 ht (by omega)) (by omega) | exact lt_b1 (ok0 ht (by omega)) (by omega) | exact lt_i0 (ok0 ht (by omega)) (by omega) | exact lt_i1 (ok0 ht (by omega)) (by omega) | exact lt_i2 (ok0 ht (by omega)) (by omega) | exact lt_u0 (ok1 ht (by omega)) (by omega) | exact lt_b0 (ok1 ht (by omega)) (by omega) | exact lt_b1 (ok1 ht (by omega)) (by omega) | exact lt_i0 (ok1 ht (by omega)) (by omega) | exact lt_i1 (ok1 ht (by omega)) (by omega) | exact lt_i2 (ok1 ht (by omega)) (by omega) | omega) | (have c1 := fun h => fit_c (ok1 ht (by omega)) h; have w1 := okT_w (ok1 ht (by omega)); have v1 := fun h => okT_w (ok0 (ok1 ht (by omega)) h); (simp only [V.Term.eta, Int.toNat_zero, Int.toNat_one, k0, k1, kAt] at *; (try simp only [wrap_id (n := (t.kids.getD 1 K.terms.dflt).n + (t.kids.getD 1 K.terms.dflt).w) (by omega) (by omega)] at *); (try (refine ⟨fr5 (t := mkT t) ?_⟩; (try rw [V.Term.eta]))); first | omega | (obtain ⟨y, hr⟩ : ∃ y, redS t = y := ⟨_, rfl⟩; have hz := hr; unfold redS redJ at hz; simp only [k0, k1, kAt] at hz; (repeat (first | rw [if_pos (by omega)] at hz | rw [if_neg (by omega)] at hz | rw [if_pos (by unfold swaps; omega)] at hz | rw [if_neg (by unfold swaps; omega)] at hz)); rw [← hz] at hr; (try rw [ho] at hr); first | exact lf_e ht (by omega) hc hr | exact ⟨fr5n (t := mkT t) (lf_e ht (by omega) hc hr)⟩ | exact (red_ok ht (by omega) hr).1 | exact (red_ok ht (by omega) hr).2))) | skip
end Vg

namespace Vg
open Go Go.Proofs
/-! ### a constant as the first kid -/
abbrev zT : V.Term := ⟨0, 0, 0, ByteArray.empty, []⟩
def firstT (op w : Int) (a b : V.Term) : Option V.Term :=
  if (op = 3 ∧ a.n = 0) ∨ (op = 5 ∧ a.n = 1) ∨ (op = 8 ∧ a.n = onW a.w) ∨ (op = 9 ∧ a.n = 0) ∨ (op = 10 ∧ a.n = 0) ∨ (op = 14 ∧ a.w = 1 ∧ a.n = 1) then some b
  else if (op = 5 ∧ a.n = 0) ∨ (op = 8 ∧ a.n = 0) then some (cT w 0)
  else if op = 9 ∧ a.n = onW a.w then some (cT w (onW a.w))
  else if (op = 10 ∧ a.n = onW a.w) ∨ (op = 14 ∧ a.w = 1 ∧ a.n = 0) then some (mkT (oT 1 w 0 [b]))
  else none
structure FirstNo (op : Int) (a : V.Term) : Prop where
  n1 : ¬ ((op = 3 ∧ a.n = 0) ∨ (op = 5 ∧ a.n = 1) ∨ (op = 8 ∧ a.n = onW a.w) ∨ (op = 9 ∧ a.n = 0) ∨ (op = 10 ∧ a.n = 0) ∨ (op = 14 ∧ a.w = 1 ∧ a.n = 1))
  n2 : ¬ ((op = 5 ∧ a.n = 0) ∨ (op = 8 ∧ a.n = 0))
  n3 : ¬ (op = 9 ∧ a.n = onW a.w)
  n4 : ¬ ((op = 10 ∧ a.n = onW a.w) ∨ (op = 14 ∧ a.w = 1 ∧ a.n = 0))
theorem first_no {op w : Int} {a b : V.Term} (h : (firstT op w a b).isSome = false) : FirstNo op a := by
  unfold firstT at h
  by_cases c1 : ((op = 3 ∧ a.n = 0) ∨ (op = 5 ∧ a.n = 1) ∨ (op = 8 ∧ a.n = onW a.w) ∨ (op = 9 ∧ a.n = 0) ∨ (op = 10 ∧ a.n = 0) ∨ (op = 14 ∧ a.w = 1 ∧ a.n = 1))
  · rw [if_pos c1] at h; cases h
  rw [if_neg c1] at h
  by_cases c2 : ((op = 5 ∧ a.n = 0) ∨ (op = 8 ∧ a.n = 0))
  · rw [if_pos c2] at h; cases h
  rw [if_neg c2] at h
  by_cases c3 : (op = 9 ∧ a.n = onW a.w)
  · rw [if_pos c3] at h; cases h
  rw [if_neg c3] at h
  by_cases c4 : ((op = 10 ∧ a.n = onW a.w) ∨ (op = 14 ∧ a.w = 1 ∧ a.n = 0))
  · rw [if_pos c4] at h; cases h
  exact ⟨c1, c2, c3, c4⟩
theorem first_is {t : V.Term} (ht : okT t = true) (ho : 3 ≤ t.op ∧ t.op ≤ 16) (hc : allC t.kids = false) (hs : ¬ (swaps t.op ∧ cmpT (k0 t) (k1 t) = 1)) (h0 : (k0 t).op = 0) (h : (firstT t.op t.w (k0 t) (k1 t)).isSome = true) : mkT t = (firstT t.op t.w (k0 t) (k1 t)).getD zT := by
  have hb : redS t = redB t := by unfold redS; rw [if_neg (by omega), if_neg (by omega), if_neg (by omega), if_neg (by omega), if_neg (by omega)]
  unfold firstT at h ⊢
  by_cases c1 : ((t.op = 3 ∧ (k0 t).n = 0) ∨ (t.op = 5 ∧ (k0 t).n = 1) ∨ (t.op = 8 ∧ (k0 t).n = onW (k0 t).w) ∨ (t.op = 9 ∧ (k0 t).n = 0) ∨ (t.op = 10 ∧ (k0 t).n = 0) ∨ (t.op = 14 ∧ (k0 t).w = 1 ∧ (k0 t).n = 1))
  · have hr : redS t = (k1 t, false) := by rw [hb]; unfold redB; rw [if_neg hs, if_pos ⟨h0, c1⟩]
    rw [lf_e ht (by omega) hc hr, if_pos c1]; rfl
  rw [if_neg c1] at h ⊢
  by_cases c2 : ((t.op = 5 ∧ (k0 t).n = 0) ∨ (t.op = 8 ∧ (k0 t).n = 0))
  · have hr : redS t = (cT t.w 0, false) := by rw [hb]; unfold redB; rw [if_neg hs, if_neg (fun k => c1 k.2), if_pos ⟨h0, c2⟩]
    rw [lf_e ht (by omega) hc hr, if_pos c2]; rfl
  rw [if_neg c2] at h ⊢
  by_cases c3 : (t.op = 9 ∧ (k0 t).n = onW (k0 t).w)
  · have hr : redS t = (cT t.w (onW (k0 t).w), false) := by rw [hb]; unfold redB; rw [if_neg hs, if_neg (fun k => c1 k.2), if_neg (fun k => c2 k.2), if_pos ⟨h0, c3⟩]
    rw [lf_e ht (by omega) hc hr, if_pos c3]; rfl
  rw [if_neg c3] at h ⊢
  by_cases c4 : ((t.op = 10 ∧ (k0 t).n = onW (k0 t).w) ∨ (t.op = 14 ∧ (k0 t).w = 1 ∧ (k0 t).n = 0))
  · have hr : redS t = (oT 1 t.w 0 [k1 t], true) := by rw [hb]; unfold redB; rw [if_neg hs, if_neg (fun k => c1 k.2), if_neg (fun k => c2 k.2), if_neg (fun k => c3 k.2), if_pos ⟨h0, c4⟩]
    rw [lf_e ht (by omega) hc hr, if_pos c4]; rfl
  rw [if_neg c4] at h
  cases h
theorem first_ok {t : V.Term} (ht : okT t = true) (ho : 3 ≤ t.op ∧ t.op ≤ 16) (hs : ¬ (swaps t.op ∧ cmpT (k0 t) (k1 t) = 1)) (h0 : (k0 t).op = 0) (c4 : (t.op = 10 ∧ (k0 t).n = onW (k0 t).w) ∨ (t.op = 14 ∧ (k0 t).w = 1 ∧ (k0 t).n = 0)) (c1 : ¬ (t.op = 10 ∧ (k0 t).n = 0)) :
    okT (oT 1 t.w 0 [k1 t]) = true ∧ meas (oT 1 t.w 0 [k1 t]) < meas t := by
  have hb : redS t = redB t := by unfold redS; rw [if_neg (by omega), if_neg (by omega), if_neg (by omega), if_neg (by omega), if_neg (by omega)]
  refine red_ok ht (by omega) ?_
  rw [hb]
  unfold redB
  rw [if_neg hs, if_neg (by omega), if_neg (by omega), if_neg (by omega), if_pos ⟨h0, c4⟩]
theorem on_word {w : Int} (h : inP w 1 16 = true) : wordP w (onW w) = true := by
  have F := wf h
  have h3 := F.s3
  exact word_of h (by show 0 ≤ (2 : Int) ^ w.toNat - 1; omega) (by show (2 : Int) ^ w.toNat - 1 < _; omega)
theorem fb_y {B : List Blk} {X : AV} {op w : Int} {a b : V.Term} (h : ∀ y, firstT op w a b = y → frzM B (.dat (.bool y.isSome)) X) : frzM B (.dat (.bool (firstT op w a b).isSome)) X := h _ rfl
theorem ft_y {B : List Blk} {X : AV} {op w : Int} {a b : V.Term} (h : ∀ y, firstT op w a b = y → frzM B (datT (y.getD zT)) X) : frzM B (datT ((firstT op w a b).getD zT)) X := h _ rfl
set_option maxHeartbeats 8000000 in
set_option maxRecDepth 100000 in
theorem i_reduceFirst (op w : Int) (a b : V.Term) (m : Nat) (ih : IHR m) (ha : inP a.w 1 16 = true) (hw : inP w 1 16 = true) (h9 : op = 9 → w = a.w) (hk : (op = 10 ∧ a.n = onW a.w) ∨ (op = 14 ∧ a.w = 1 ∧ a.n = 0) → ¬ (op = 10 ∧ a.n = 0) → okT (oT 1 w 0 [b]) = true ∧ meas (oT 1 w 0 [b]) < m) : CallsV Tryz.prog 107 [.dat (.i op), .dat (.i w), .agg [.dat (.i a.op), .dat (.i a.w), .dat (.i a.n), .dat (.str a.name), .dat (.seq .terms a.kids)], .agg [.dat (.i b.op), .dat (.i b.w), .dat (.i b.n), .dat (.str b.name), .dat (.seq .terms b.kids)]] (.tup [datT ((firstT op w a b).getD zT), .dat (.bool (firstT op w a b).isSome)]) := by
  refine CallsV.of_awp tauOk mixOk Tryz.func107 rfl rfl rfl ?_
  conv => whnf
  repeat' (first | ((with_reducible refine fun (K1 : AX → AState → Prop) hK => ?_); refine stW ⟨?_⟩) | ((with_reducible show K1 _ _); subst hK; conv => whnf) | (with_reducible exact rfl) | refine st0 ⟨?_⟩ | ((with_reducible refine SplS.mk (fun h => ?_) (fun h => ?_)) <;> first | exact ctA | (subst h; conv => whnf) | (conv => whnf)) | ((with_reducible refine SplB.mk (fun h => ?_) (fun h => ?_)) <;> first | exact ctR | (conv => whnf)) | ((with_reducible refine and_of ?_ ?_); conv => whnf) | ((with_reducible refine pcI (g := 64) ?_); refine ⟨_, i_onesOf (hw := ?_) .., rfl, ?_⟩; rotate_right; conv => whnf) | ((with_reducible show Exists _); refine Exists.intro _ (And.intro (i_onesOf (hw := ?_) ..) (And.intro rfl ?_)); rotate_right; conv => whnf) | ((with_reducible refine pcI (g := 47) ?_); refine ⟨_, i_ConstTerm (h := ?_) .., rfl, ?_⟩; rotate_right; conv => whnf) | ((with_reducible show Exists _); refine Exists.intro _ (And.intro (i_ConstTerm (h := ?_) ..) (And.intro rfl ?_)); rotate_right; conv => whnf) | ((with_reducible refine pcI (g := 104) ?_); refine ⟨_, i_remake (ih := by assumption) (hk := ?_) (hm := ?_) .., rfl, ?_⟩; rotate_right; conv => whnf) | ((with_reducible show Exists _); refine Exists.intro _ (And.intro (i_remake (ih := by assumption) (hk := ?_) (hm := ?_) ..) (And.intro rfl ?_)); rotate_right; conv => whnf) | ((with_reducible refine zcI (g := 64) ?_); (conv => whnf); refine ⟨_, _, i_onesOf (hw := ?_) .., rfl, fun res B hRB => ?_⟩; rotate_right; obtain ⟨rfl, rfl⟩ := hRB; conv => whnf) | ((with_reducible refine zcI (g := 47) ?_); (conv => whnf); refine ⟨_, _, i_ConstTerm (h := ?_) .., rfl, fun res B hRB => ?_⟩; rotate_right; obtain ⟨rfl, rfl⟩ := hRB; conv => whnf) | ((with_reducible refine zcI (g := 104) ?_); (conv => whnf); refine ⟨_, _, i_remake (ih := by with_reducible assumption) (hk := ?_) (hm := ?_) .., rfl, fun res B hRB => ?_⟩; rotate_right; obtain ⟨rfl, rfl⟩ := hRB; conv => whnf) | (intro h; conv => whnf))
  all_goals (repeat (clear hK; clear K1))
  all_goals first | exact True.intro | exact ha | exact zero_word hw | (have e := h9 rfl; rw [e]; exact on_word ha) | (rw [V.Term.eta]; first | exact (hk (.inl ⟨rfl, by with_reducible assumption⟩) (by omega)).1 | exact (hk (.inl ⟨rfl, by with_reducible assumption⟩) (by omega)).2 | exact (hk (.inr ⟨rfl, by with_reducible assumption, by with_reducible assumption⟩) (by omega)).1 | exact (hk (.inr ⟨rfl, by with_reducible assumption, by with_reducible assumption⟩) (by omega)).2) | ((try simp only [V.Term.eta, onW] at *); first | ((first | refine fb_y fun y hz => ?_ | refine ft_y fun y hz => ?_); clear hk h9; unfold firstT onW at hz; (repeat (first | rw [if_pos (by omega)] at hz | rw [if_neg (by omega)] at hz)); subst hz; first | exact rfl | exact fr5M (V.Term.eta _).symm | exact fr5M rfl | exact fr5Mn rfl)) | skip
end Vg

namespace Vg
open Go Go.Proofs
def redB2 (t : V.Term) : V.Term × Bool :=
  if (k1 t).op = 0 ∧ (k1 t).n = 0 ∧ (t.op = 4 ∨ t.op = 11 ∨ t.op = 12 ∨ t.op = 13) then (k0 t, false)
  else if (k1 t).op = 0 ∧ (k1 t).n = 0 ∧ t.op = 15 then (cT 1 0, false)
  else if cmpT (k0 t) (k1 t) = 0 ∧ (t.op = 8 ∨ t.op = 9) then (k0 t, false)
  else if cmpT (k0 t) (k1 t) = 0 ∧ (t.op = 4 ∨ t.op = 10 ∨ t.op = 15 ∨ t.op = 16) then (cT t.w 0, false)
  else if cmpT (k0 t) (k1 t) = 0 ∧ t.op = 14 then (cT 1 1, false)
  else if (swaps t.op ∧ t.op ≠ 14) ∧ (k0 t).op = 0 ∧ (k1 t).op = t.op ∧ (k0 (k1 t)).op = 0 then (oT t.op t.w 0 [cT t.w (applyB t.op t.w (k0 t).n (k0 (k1 t)).n), k1 (k1 t)], true)
  else (t, false)
theorem redS_b {t : V.Term} (ho : 3 ≤ t.op ∧ t.op ≤ 16) : redS t = redB t := by
  unfold redS
  rw [if_neg (by omega), if_neg (by omega), if_neg (by omega), if_neg (by omega), if_neg (by omega)]
theorem rb_swap {t : V.Term} (hs : swaps t.op) (hc : cmpT (k0 t) (k1 t) = 1) : redB t = (oT t.op t.w 0 [k1 t, k0 t], true) := by
  unfold redB
  rw [if_pos ⟨hs, hc⟩]
theorem rb_no0 {t : V.Term} (hs : ¬ (swaps t.op ∧ cmpT (k0 t) (k1 t) = 1)) (h0 : ¬ (k0 t).op = 0) : redB t = redB2 t := by
  unfold redB redB2
  rw [if_neg hs, if_neg (fun q => h0 q.1), if_neg (fun q => h0 q.1), if_neg (fun q => h0 q.1), if_neg (fun q => h0 q.1)]
theorem rb_no1 {t : V.Term} (hs : ¬ (swaps t.op ∧ cmpT (k0 t) (k1 t) = 1)) (hf : (firstT t.op t.w (k0 t) (k1 t)).isSome = false) : redB t = redB2 t := by
  have f := first_no hf
  unfold redB redB2
  rw [if_neg hs, if_neg (fun q => f.n1 q.2), if_neg (fun q => f.n2 q.2), if_neg (fun q => f.n3 q.2), if_neg (fun q => f.n4 q.2)]
theorem lb_f {t x : V.Term} (ht : okT t = true) (ho : 3 ≤ t.op ∧ t.op ≤ 16) (hc : allC t.kids = false) (hr : redB t = (x, false)) : mkT t = x := by
  have := lf_e ht (by omega) hc ((redS_b ho).trans hr)
  rwa [if_neg Bool.false_ne_true] at this
theorem lb_t {t x : V.Term} (ht : okT t = true) (ho : 3 ≤ t.op ∧ t.op ≤ 16) (hc : allC t.kids = false) (hr : redB t = (x, true)) : mkT t = mkT x := by
  have := lf_e ht (by omega) hc ((redS_b ho).trans hr)
  rwa [if_pos rfl] at this
theorem lb_ok {t x : V.Term} (ht : okT t = true) (ho : 3 ≤ t.op ∧ t.op ≤ 16) (hr : redB t = (x, true)) : okT x = true ∧ meas x < meas t := red_ok ht (by omega) ((redS_b ho).trans hr)
structure FK (op w : Int) (a b : V.Term) (m : Nat) : Prop where
  h : (op = 10 ∧ a.n = onW a.w) ∨ (op = 14 ∧ a.w = 1 ∧ a.n = 0) → ¬ (op = 10 ∧ a.n = 0) → okT (oT 1 w 0 [b]) = true ∧ meas (oT 1 w 0 [b]) < m
structure F9 (op w w' : Int) : Prop where
  h : op = 9 → w = w'
theorem i_first (op w : Int) (a b : V.Term) (m : Nat) (ih : IHR m) (ha : inP a.w 1 16 = true) (hw : inP w 1 16 = true) (h9 : F9 op w a.w) (hk : FK op w a b m) :
    CallsV Tryz.prog 107 [.dat (.i op), .dat (.i w), .agg [.dat (.i a.op), .dat (.i a.w), .dat (.i a.n), .dat (.str a.name), .dat (.seq .terms a.kids)], .agg [.dat (.i b.op), .dat (.i b.w), .dat (.i b.n), .dat (.str b.name), .dat (.seq .terms b.kids)]]
      (.tup [datT ((firstT op w a b).getD zT), .dat (.bool (firstT op w a b).isSome)]) := i_reduceFirst op w a b m ih ha hw h9.h hk.h
theorem fk_of {k : Int} {t : V.Term} (ht : okT t = true) (ho : t.op = k) (h3 : 3 ≤ k ∧ k ≤ 16) (hs : ¬ (swaps t.op ∧ cmpT (k0 t) (k1 t) = 1)) (h0 : (k0 t).op = 0) : FK k t.w (k0 t) (k1 t) (meas t) := by
  subst ho
  exact ⟨fun c4 c1 => first_ok ht h3 hs h0 c4 c1⟩
theorem f9_of {k : Int} {t : V.Term} (ht : okT t = true) (ho : t.op = k) (h3 : 3 ≤ k ∧ k ≤ 16) : F9 k t.w (k0 t).w := by
  subst ho
  exact ⟨fun e => (fit_b ht (by omega)).1.symm⟩
theorem fi_of {k : Int} {t : V.Term} (ht : okT t = true) (ho : t.op = k) (h3 : 3 ≤ k ∧ k ≤ 16) (hc : allC t.kids = false) (hs : ¬ (swaps t.op ∧ cmpT (k0 t) (k1 t) = 1)) (h0 : (k0 t).op = 0) (h : (firstT k t.w (k0 t) (k1 t)).isSome = true) : mkT t = (firstT k t.w (k0 t) (k1 t)).getD zT := by
  subst ho
  exact first_is ht h3 hc hs h0 h
theorem ns_3 {t : V.Term} (h : ¬ cmpT (k0 t) (k1 t) = 1) : ¬ (swaps t.op ∧ cmpT (k0 t) (k1 t) = 1) := fun q => h q.2
theorem sw_3 {t : V.Term} (ho : t.op = 3) (h : cmpT (k0 t) (k1 t) = 1) : redB t = (oT 3 t.w 0 [k1 t, k0 t], true) := by
  rw [rb_swap (by unfold swaps; omega) h, ho]
theorem n1_3 {t : V.Term} (ho : t.op = 3) (hs : ¬ (swaps t.op ∧ cmpT (k0 t) (k1 t) = 1)) (hf : (firstT 3 t.w (k0 t) (k1 t)).isSome = false) : redB t = redB2 t := rb_no1 hs (by rw [ho]; exact hf)
theorem r2_3 {t : V.Term} (ho : t.op = 3) : redB2 t = if ((k0 t).op = 0 ∧ (k1 t).op = 3 ∧ (k0 (k1 t)).op = 0) then (oT 3 t.w 0 [cT t.w (applyB 3 t.w (k0 t).n (k0 (k1 t)).n), k1 (k1 t)], true) else (t, false) := by
  unfold redB2 swaps
  rw [ho]
  simp
theorem ns_4 {t : V.Term} (ho : t.op = 4) : ¬ (swaps t.op ∧ cmpT (k0 t) (k1 t) = 1) := by unfold swaps; omega
theorem n1_4 {t : V.Term} (ho : t.op = 4) (hs : ¬ (swaps t.op ∧ cmpT (k0 t) (k1 t) = 1)) (hf : (firstT 4 t.w (k0 t) (k1 t)).isSome = false) : redB t = redB2 t := rb_no1 hs (by rw [ho]; exact hf)
theorem r2_4 {t : V.Term} (ho : t.op = 4) : redB2 t = if ((k1 t).op = 0 ∧ (k1 t).n = 0) then (k0 t, false) else if cmpT (k0 t) (k1 t) = 0 then (cT t.w 0, false) else (t, false) := by
  unfold redB2 swaps
  rw [ho]
  simp
theorem ns_5 {t : V.Term} (h : ¬ cmpT (k0 t) (k1 t) = 1) : ¬ (swaps t.op ∧ cmpT (k0 t) (k1 t) = 1) := fun q => h q.2
theorem sw_5 {t : V.Term} (ho : t.op = 5) (h : cmpT (k0 t) (k1 t) = 1) : redB t = (oT 5 t.w 0 [k1 t, k0 t], true) := by
  rw [rb_swap (by unfold swaps; omega) h, ho]
theorem n1_5 {t : V.Term} (ho : t.op = 5) (hs : ¬ (swaps t.op ∧ cmpT (k0 t) (k1 t) = 1)) (hf : (firstT 5 t.w (k0 t) (k1 t)).isSome = false) : redB t = redB2 t := rb_no1 hs (by rw [ho]; exact hf)
theorem r2_5 {t : V.Term} (ho : t.op = 5) : redB2 t = if ((k0 t).op = 0 ∧ (k1 t).op = 5 ∧ (k0 (k1 t)).op = 0) then (oT 5 t.w 0 [cT t.w (applyB 5 t.w (k0 t).n (k0 (k1 t)).n), k1 (k1 t)], true) else (t, false) := by
  unfold redB2 swaps
  rw [ho]
  simp
theorem ns_6 {t : V.Term} (ho : t.op = 6) : ¬ (swaps t.op ∧ cmpT (k0 t) (k1 t) = 1) := by unfold swaps; omega
theorem n1_6 {t : V.Term} (ho : t.op = 6) (hs : ¬ (swaps t.op ∧ cmpT (k0 t) (k1 t) = 1)) (hf : (firstT 6 t.w (k0 t) (k1 t)).isSome = false) : redB t = redB2 t := rb_no1 hs (by rw [ho]; exact hf)
theorem r2_6 {t : V.Term} (ho : t.op = 6) : redB2 t = (t, false) := by
  unfold redB2 swaps
  rw [ho]
  simp
theorem ns_7 {t : V.Term} (ho : t.op = 7) : ¬ (swaps t.op ∧ cmpT (k0 t) (k1 t) = 1) := by unfold swaps; omega
theorem n1_7 {t : V.Term} (ho : t.op = 7) (hs : ¬ (swaps t.op ∧ cmpT (k0 t) (k1 t) = 1)) (hf : (firstT 7 t.w (k0 t) (k1 t)).isSome = false) : redB t = redB2 t := rb_no1 hs (by rw [ho]; exact hf)
theorem r2_7 {t : V.Term} (ho : t.op = 7) : redB2 t = (t, false) := by
  unfold redB2 swaps
  rw [ho]
  simp
theorem ns_8 {t : V.Term} (h : ¬ cmpT (k0 t) (k1 t) = 1) : ¬ (swaps t.op ∧ cmpT (k0 t) (k1 t) = 1) := fun q => h q.2
theorem sw_8 {t : V.Term} (ho : t.op = 8) (h : cmpT (k0 t) (k1 t) = 1) : redB t = (oT 8 t.w 0 [k1 t, k0 t], true) := by
  rw [rb_swap (by unfold swaps; omega) h, ho]
theorem n1_8 {t : V.Term} (ho : t.op = 8) (hs : ¬ (swaps t.op ∧ cmpT (k0 t) (k1 t) = 1)) (hf : (firstT 8 t.w (k0 t) (k1 t)).isSome = false) : redB t = redB2 t := rb_no1 hs (by rw [ho]; exact hf)
theorem r2_8 {t : V.Term} (ho : t.op = 8) : redB2 t = if cmpT (k0 t) (k1 t) = 0 then (k0 t, false) else if ((k0 t).op = 0 ∧ (k1 t).op = 8 ∧ (k0 (k1 t)).op = 0) then (oT 8 t.w 0 [cT t.w (applyB 8 t.w (k0 t).n (k0 (k1 t)).n), k1 (k1 t)], true) else (t, false) := by
  unfold redB2 swaps
  rw [ho]
  simp
theorem ns_9 {t : V.Term} (h : ¬ cmpT (k0 t) (k1 t) = 1) : ¬ (swaps t.op ∧ cmpT (k0 t) (k1 t) = 1) := fun q => h q.2
theorem sw_9 {t : V.Term} (ho : t.op = 9) (h : cmpT (k0 t) (k1 t) = 1) : redB t = (oT 9 t.w 0 [k1 t, k0 t], true) := by
  rw [rb_swap (by unfold swaps; omega) h, ho]
theorem n1_9 {t : V.Term} (ho : t.op = 9) (hs : ¬ (swaps t.op ∧ cmpT (k0 t) (k1 t) = 1)) (hf : (firstT 9 t.w (k0 t) (k1 t)).isSome = false) : redB t = redB2 t := rb_no1 hs (by rw [ho]; exact hf)
theorem r2_9 {t : V.Term} (ho : t.op = 9) : redB2 t = if cmpT (k0 t) (k1 t) = 0 then (k0 t, false) else if ((k0 t).op = 0 ∧ (k1 t).op = 9 ∧ (k0 (k1 t)).op = 0) then (oT 9 t.w 0 [cT t.w (applyB 9 t.w (k0 t).n (k0 (k1 t)).n), k1 (k1 t)], true) else (t, false) := by
  unfold redB2 swaps
  rw [ho]
  simp
theorem ns_10 {t : V.Term} (h : ¬ cmpT (k0 t) (k1 t) = 1) : ¬ (swaps t.op ∧ cmpT (k0 t) (k1 t) = 1) := fun q => h q.2
theorem sw_10 {t : V.Term} (ho : t.op = 10) (h : cmpT (k0 t) (k1 t) = 1) : redB t = (oT 10 t.w 0 [k1 t, k0 t], true) := by
  rw [rb_swap (by unfold swaps; omega) h, ho]
theorem n1_10 {t : V.Term} (ho : t.op = 10) (hs : ¬ (swaps t.op ∧ cmpT (k0 t) (k1 t) = 1)) (hf : (firstT 10 t.w (k0 t) (k1 t)).isSome = false) : redB t = redB2 t := rb_no1 hs (by rw [ho]; exact hf)
theorem r2_10 {t : V.Term} (ho : t.op = 10) : redB2 t = if cmpT (k0 t) (k1 t) = 0 then (cT t.w 0, false) else if ((k0 t).op = 0 ∧ (k1 t).op = 10 ∧ (k0 (k1 t)).op = 0) then (oT 10 t.w 0 [cT t.w (applyB 10 t.w (k0 t).n (k0 (k1 t)).n), k1 (k1 t)], true) else (t, false) := by
  unfold redB2 swaps
  rw [ho]
  simp
theorem ns_11 {t : V.Term} (ho : t.op = 11) : ¬ (swaps t.op ∧ cmpT (k0 t) (k1 t) = 1) := by unfold swaps; omega
theorem n1_11 {t : V.Term} (ho : t.op = 11) (hs : ¬ (swaps t.op ∧ cmpT (k0 t) (k1 t) = 1)) (hf : (firstT 11 t.w (k0 t) (k1 t)).isSome = false) : redB t = redB2 t := rb_no1 hs (by rw [ho]; exact hf)
theorem r2_11 {t : V.Term} (ho : t.op = 11) : redB2 t = if ((k1 t).op = 0 ∧ (k1 t).n = 0) then (k0 t, false) else (t, false) := by
  unfold redB2 swaps
  rw [ho]
  simp
theorem ns_12 {t : V.Term} (ho : t.op = 12) : ¬ (swaps t.op ∧ cmpT (k0 t) (k1 t) = 1) := by unfold swaps; omega
theorem n1_12 {t : V.Term} (ho : t.op = 12) (hs : ¬ (swaps t.op ∧ cmpT (k0 t) (k1 t) = 1)) (hf : (firstT 12 t.w (k0 t) (k1 t)).isSome = false) : redB t = redB2 t := rb_no1 hs (by rw [ho]; exact hf)
theorem r2_12 {t : V.Term} (ho : t.op = 12) : redB2 t = if ((k1 t).op = 0 ∧ (k1 t).n = 0) then (k0 t, false) else (t, false) := by
  unfold redB2 swaps
  rw [ho]
  simp
theorem ns_13 {t : V.Term} (ho : t.op = 13) : ¬ (swaps t.op ∧ cmpT (k0 t) (k1 t) = 1) := by unfold swaps; omega
theorem n1_13 {t : V.Term} (ho : t.op = 13) (hs : ¬ (swaps t.op ∧ cmpT (k0 t) (k1 t) = 1)) (hf : (firstT 13 t.w (k0 t) (k1 t)).isSome = false) : redB t = redB2 t := rb_no1 hs (by rw [ho]; exact hf)
theorem r2_13 {t : V.Term} (ho : t.op = 13) : redB2 t = if ((k1 t).op = 0 ∧ (k1 t).n = 0) then (k0 t, false) else (t, false) := by
  unfold redB2 swaps
  rw [ho]
  simp
theorem ns_14 {t : V.Term} (h : ¬ cmpT (k0 t) (k1 t) = 1) : ¬ (swaps t.op ∧ cmpT (k0 t) (k1 t) = 1) := fun q => h q.2
theorem sw_14 {t : V.Term} (ho : t.op = 14) (h : cmpT (k0 t) (k1 t) = 1) : redB t = (oT 14 t.w 0 [k1 t, k0 t], true) := by
  rw [rb_swap (by unfold swaps; omega) h, ho]
theorem n1_14 {t : V.Term} (ho : t.op = 14) (hs : ¬ (swaps t.op ∧ cmpT (k0 t) (k1 t) = 1)) (hf : (firstT 14 t.w (k0 t) (k1 t)).isSome = false) : redB t = redB2 t := rb_no1 hs (by rw [ho]; exact hf)
theorem r2_14 {t : V.Term} (ho : t.op = 14) : redB2 t = if cmpT (k0 t) (k1 t) = 0 then (cT 1 1, false) else (t, false) := by
  unfold redB2 swaps
  rw [ho]
  simp
theorem ns_15 {t : V.Term} (ho : t.op = 15) : ¬ (swaps t.op ∧ cmpT (k0 t) (k1 t) = 1) := by unfold swaps; omega
theorem n1_15 {t : V.Term} (ho : t.op = 15) (hs : ¬ (swaps t.op ∧ cmpT (k0 t) (k1 t) = 1)) (hf : (firstT 15 t.w (k0 t) (k1 t)).isSome = false) : redB t = redB2 t := rb_no1 hs (by rw [ho]; exact hf)
theorem r2_15 {t : V.Term} (ho : t.op = 15) : redB2 t = if ((k1 t).op = 0 ∧ (k1 t).n = 0) then (cT 1 0, false) else if cmpT (k0 t) (k1 t) = 0 then (cT t.w 0, false) else (t, false) := by
  unfold redB2 swaps
  rw [ho]
  simp
theorem ns_16 {t : V.Term} (ho : t.op = 16) : ¬ (swaps t.op ∧ cmpT (k0 t) (k1 t) = 1) := by unfold swaps; omega
theorem n1_16 {t : V.Term} (ho : t.op = 16) (hs : ¬ (swaps t.op ∧ cmpT (k0 t) (k1 t) = 1)) (hf : (firstT 16 t.w (k0 t) (k1 t)).isSome = false) : redB t = redB2 t := rb_no1 hs (by rw [ho]; exact hf)
theorem r2_16 {t : V.Term} (ho : t.op = 16) : redB2 t = if cmpT (k0 t) (k1 t) = 0 then (cT t.w 0, false) else (t, false) := by
  unfold redB2 swaps
  rw [ho]
  simp
theorem te_of {k : Int} {t : V.Term} (ho : t.op = k) : t = ⟨k, t.w, t.n, t.name, t.kids⟩ := by rw [← ho]; exact (V.Term.eta t).symm
theorem wd_1 {k : Int} {t : V.Term} (ht : okT t = true) (ho : t.op = k) (h3 : 3 ≤ k ∧ k ≤ 10) (h0 : (k0 t).op = 0) (h1 : (k1 t).op = k) (h2 : (k0 (k1 t)).op = 0) : wordP t.w (applyB k t.w (k0 t).n (k0 (k1 t)).n) = true := by
  have e := fit_b ht (by omega)
  have a1 := ok1 ht (by omega)
  have f := fit_b a1 (by omega)
  have w0 := const_w (ok0 ht (by omega)) h0
  have w1 := const_w (ok0 a1 (by omega)) h2
  rw [e.1] at w0
  rw [f.1, e.2] at w1
  exact applyB_word (by omega) w0 w1
theorem and_z1 {a b c : Prop} (h : ¬ a) : ¬ (a ∧ b ∧ c) := fun q => h q.1
theorem and_z2 {a b c : Prop} (h : ¬ b) : ¬ (a ∧ b ∧ c) := fun q => h q.2.1
theorem and_z3 {a b c : Prop} (h : ¬ c) : ¬ (a ∧ b ∧ c) := fun q => h q.2.2
end Vg
