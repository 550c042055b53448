/- Walks and laws that the proof leans on. No condition. -/
import Derived.Test.YtahdmongckgjcaaGreatDoorTermRB
import Derived.Test.YtahdmongckgjcaaGreatDoorDrw
namespace Vg
open Go Go.Proofs
set_option maxHeartbeats 8000000 in
set_option maxRecDepth 100000 in
theorem i_reduceJoin (t : V.Term) (ih : IHR (meas t)) (ht : okT t = true) (ho : t.op = 18) (hc : allC t.kids = false) : CallsV Tryz.prog 164 [.agg [.dat (.i t.op), .dat (.i t.w), .dat (.i t.n), .dat (.str t.name), .dat (.seq .terms t.kids)]] (datT (mkT t)) := by
  refine CallsV.of_awp tauOk mixOk Tryz.func164 rfl rfl rfl ?_
  conv => whnf
  repeat' (first
    | ((with_reducible refine fun (K1 : AX → AState → Prop) hK => ?_); (with_reducible refine awp_rg ?_ ?_); exact rfl; conv => whnf)
    | (with_reducible refine frG ?_)
    | ((with_reducible refine fun (K1 : AX → AState → Prop) hK => ?_); (with_reducible refine awp_dw ?_ ?_); exact rfl; (conv => whnf); simp only [List.nil_append, List.cons_append])
    | ((with_reducible refine WRun_nil ?_); conv => whnf)
    | ((with_reducible refine WRun_go ?_ ?_); exact rfl; conv => whnf)
    | ((with_reducible refine WRun_skip ?_ ?_); exact rfl)
    | ((with_reducible refine WAg_nil ?_))
    | ((with_reducible refine WAg_go ?_ ?_); exact rfl; conv => whnf)
    | ((with_reducible refine WAg_skip ?_ ?_); exact rfl)
    | ((with_reducible refine WR_end ?_ ?_); exact rfl; conv => whnf)
    | ((with_reducible show WR _ _ _ _ _ _ _ _ _); refine WR_go rfl ?_)
    | ((with_reducible show WEach _ _); refine WEach_one rfl ?_; conv => whnf)
    | ((with_reducible show WEach _ _); refine WEach_more rfl ?_ ?_; conv => whnf)
    | ((with_reducible refine Alt.l ?_); conv => whnf)
    | ((with_reducible refine fun (K1 : AX → AState → Prop) hK => ?_); conv => whnf)
    | ((with_reducible show K1 _ _); subst hK; conv => whnf)
    | (with_reducible exact rfl)
    | ((with_reducible refine sp_T ?_); conv => whnf)
    | ((with_reducible refine sp_F ?_); conv => whnf)
    | ((with_reducible refine sp_e (fun h => ?_) (fun h => ?_)) <;> first | contradiction | (subst h; conv => whnf) | (conv => whnf))
    | (refine ⟨(rfl : nodupB _ = true), rfl, ?_⟩; conv => whnf)
    | (with_reducible refine bnd2 ?_ ?_)
    | ((with_reducible refine and_of ?_ ?_); conv => whnf)
    | ((with_reducible show Exists _); refine Exists.intro _ (And.intro (i_sameTerm ..) (And.intro rfl ?_)); rotate_right; conv => whnf)
    | ((with_reducible show Exists _); refine Exists.intro _ (And.intro (i_remake (ih := by assumption) (hk := ?_) (hm := ?_) ..) (And.intro rfl ?_)); rotate_right; conv => whnf)
    | ((with_reducible refine zcI (g := 189) ?_); (conv => whnf); refine ⟨_, _, i_sameTerm .., rfl, fun res B hRB => ?_⟩; rotate_right; obtain ⟨rfl, rfl⟩ := hRB; conv => whnf)
    | ((with_reducible refine zcI (g := 190) ?_); (conv => whnf); refine ⟨_, _, i_remake (ih := by with_reducible assumption) (hk := ?_) (hm := ?_) .., rfl, fun res B hRB => ?_⟩; rotate_right; obtain ⟨rfl, rfl⟩ := hRB; conv => whnf)
    | ((with_reducible show awpOps _ _ _ _ _ _); conv => whnf)
    | (intro h; conv => whnf))
  all_goals (repeat (clear hK; clear K1))
  all_goals first
    | exact True.intro
    | ((with_reducible show (_ : Int) ≤ _); omega)
    | ((with_reducible show (_ : Int) < _); first
        | exact lt_u0 ht (by omega)
        | exact lt_b0 ht (by omega)
        | exact lt_b1 ht (by omega)
        | exact lt_u0 (ok0 ht (by omega)) (by omega)
        | exact lt_b0 (ok0 ht (by omega)) (by omega)
        | exact lt_b1 (ok0 ht (by omega)) (by omega)
        | exact lt_i0 (ok0 ht (by omega)) (by omega)
        | exact lt_i1 (ok0 ht (by omega)) (by omega)
        | exact lt_i2 (ok0 ht (by omega)) (by omega)
        | exact lt_u0 (ok1 ht (by omega)) (by omega)
        | exact lt_b0 (ok1 ht (by omega)) (by omega)
        | exact lt_b1 (ok1 ht (by omega)) (by omega)
        | exact lt_i0 (ok1 ht (by omega)) (by omega)
        | exact lt_i1 (ok1 ht (by omega)) (by omega)
        | exact lt_i2 (ok1 ht (by omega)) (by omega)
        | omega)
    | (have c1 := fun h => fit_c (ok1 ht (by omega)) h; have w1 := okT_w (ok1 ht (by omega)); have v1 := fun h => okT_w (ok0 (ok1 ht (by omega)) h); (simp only [V.Term.eta, Int.toNat_zero, Int.toNat_one, k0, k1, kAt] at *; (try simp only [wrap_id (n := (t.kids.getD 1 K.terms.dflt).n + (t.kids.getD 1 K.terms.dflt).w) (by omega) (by omega)] at *); (try (refine ⟨fr5 (t := mkT t) ?_⟩; (try rw [V.Term.eta]))); first
        | omega
        | (obtain ⟨y, hr⟩ : ∃ y, redS t = y := ⟨_, rfl⟩; have hz := hr; unfold redS redJ at hz; simp only [k0, k1, kAt] at hz; (repeat (first | rw [if_pos (by omega)] at hz | rw [if_neg (by omega)] at hz | rw [if_pos (by unfold swaps; omega)] at hz | rw [if_neg (by unfold swaps; omega)] at hz)); rw [← hz] at hr; (try rw [ho] at hr); first
            | exact lf_e ht (by omega) hc hr
            | exact ⟨fr5n (t := mkT t) (lf_e ht (by omega) hc hr)⟩
            | exact (red_ok ht (by omega) hr).1
            | exact (red_ok ht (by omega) hr).2)))
    | skip
end Vg

namespace Vg
open Go Go.Proofs
/-! ### a constant as the first kid -/
abbrev zT : V.Term := ⟨0, 0, 0, ByteArray.empty, []⟩
def firstT (op w : Int) (a b : V.Term) : Option V.Term :=
  if (op = 3 ∧ a.n = 0) ∨ (op = 5 ∧ a.n = 1) ∨ (op = 8 ∧ a.n = onW a.w) ∨ (op = 9 ∧ a.n = 0) ∨ (op = 10 ∧ a.n = 0) ∨ (op = 14 ∧ a.w = 1 ∧ a.n = 1) then some b
  else if (op = 5 ∧ a.n = 0) ∨ (op = 8 ∧ a.n = 0) then some (cT w 0)
  else if op = 9 ∧ a.n = onW a.w then some (cT w (onW a.w))
  else if (op = 10 ∧ a.n = onW a.w) ∨ (op = 14 ∧ a.w = 1 ∧ a.n = 0) then some (mkT (oT 1 w 0 [b]))
  else none
structure FirstNo (op : Int) (a : V.Term) : Prop where
  n1 : ¬ ((op = 3 ∧ a.n = 0) ∨ (op = 5 ∧ a.n = 1) ∨ (op = 8 ∧ a.n = onW a.w) ∨ (op = 9 ∧ a.n = 0) ∨ (op = 10 ∧ a.n = 0) ∨ (op = 14 ∧ a.w = 1 ∧ a.n = 1))
  n2 : ¬ ((op = 5 ∧ a.n = 0) ∨ (op = 8 ∧ a.n = 0))
  n3 : ¬ (op = 9 ∧ a.n = onW a.w)
  n4 : ¬ ((op = 10 ∧ a.n = onW a.w) ∨ (op = 14 ∧ a.w = 1 ∧ a.n = 0))
theorem first_no {op w : Int} {a b : V.Term} (h : (firstT op w a b).isSome = false) : FirstNo op a := by
  unfold firstT at h
  by_cases c1 : ((op = 3 ∧ a.n = 0) ∨ (op = 5 ∧ a.n = 1) ∨ (op = 8 ∧ a.n = onW a.w) ∨ (op = 9 ∧ a.n = 0) ∨ (op = 10 ∧ a.n = 0) ∨ (op = 14 ∧ a.w = 1 ∧ a.n = 1))
  · rw [if_pos c1] at h; cases h
  rw [if_neg c1] at h
  by_cases c2 : ((op = 5 ∧ a.n = 0) ∨ (op = 8 ∧ a.n = 0))
  · rw [if_pos c2] at h; cases h
  rw [if_neg c2] at h
  by_cases c3 : (op = 9 ∧ a.n = onW a.w)
  · rw [if_pos c3] at h; cases h
  rw [if_neg c3] at h
  by_cases c4 : ((op = 10 ∧ a.n = onW a.w) ∨ (op = 14 ∧ a.w = 1 ∧ a.n = 0))
  · rw [if_pos c4] at h; cases h
  exact ⟨c1, c2, c3, c4⟩
theorem first_is {t : V.Term} (ht : okT t = true) (ho : 3 ≤ t.op ∧ t.op ≤ 16) (hc : allC t.kids = false) (hs : ¬ (swaps t.op ∧ cmpT (k0 t) (k1 t) = 1)) (h0 : (k0 t).op = 0) (h : (firstT t.op t.w (k0 t) (k1 t)).isSome = true) : mkT t = (firstT t.op t.w (k0 t) (k1 t)).getD zT := by
  have hb : redS t = redB t := by unfold redS; rw [if_neg (by omega), if_neg (by omega), if_neg (by omega), if_neg (by omega), if_neg (by omega)]
  unfold firstT at h ⊢
  by_cases c1 : ((t.op = 3 ∧ (k0 t).n = 0) ∨ (t.op = 5 ∧ (k0 t).n = 1) ∨ (t.op = 8 ∧ (k0 t).n = onW (k0 t).w) ∨ (t.op = 9 ∧ (k0 t).n = 0) ∨ (t.op = 10 ∧ (k0 t).n = 0) ∨ (t.op = 14 ∧ (k0 t).w = 1 ∧ (k0 t).n = 1))
  · have hr : redS t = (k1 t, false) := by rw [hb]; unfold redB; rw [if_neg hs, if_pos ⟨h0, c1⟩]
    rw [lf_e ht (by omega) hc hr, if_pos c1]; rfl
  rw [if_neg c1] at h ⊢
  by_cases c2 : ((t.op = 5 ∧ (k0 t).n = 0) ∨ (t.op = 8 ∧ (k0 t).n = 0))
  · have hr : redS t = (cT t.w 0, false) := by rw [hb]; unfold redB; rw [if_neg hs, if_neg (fun k => c1 k.2), if_pos ⟨h0, c2⟩]
    rw [lf_e ht (by omega) hc hr, if_pos c2]; rfl
  rw [if_neg c2] at h ⊢
  by_cases c3 : (t.op = 9 ∧ (k0 t).n = onW (k0 t).w)
  · have hr : redS t = (cT t.w (onW (k0 t).w), false) := by rw [hb]; unfold redB; rw [if_neg hs, if_neg (fun k => c1 k.2), if_neg (fun k => c2 k.2), if_pos ⟨h0, c3⟩]
    rw [lf_e ht (by omega) hc hr, if_pos c3]; rfl
  rw [if_neg c3] at h ⊢
  by_cases c4 : ((t.op = 10 ∧ (k0 t).n = onW (k0 t).w) ∨ (t.op = 14 ∧ (k0 t).w = 1 ∧ (k0 t).n = 0))
  · have hr : redS t = (oT 1 t.w 0 [k1 t], true) := by rw [hb]; unfold redB; rw [if_neg hs, if_neg (fun k => c1 k.2), if_neg (fun k => c2 k.2), if_neg (fun k => c3 k.2), if_pos ⟨h0, c4⟩]
    rw [lf_e ht (by omega) hc hr, if_pos c4]; rfl
  rw [if_neg c4] at h
  cases h
theorem first_ok {t : V.Term} (ht : okT t = true) (ho : 3 ≤ t.op ∧ t.op ≤ 16) (hs : ¬ (swaps t.op ∧ cmpT (k0 t) (k1 t) = 1)) (h0 : (k0 t).op = 0) (c4 : (t.op = 10 ∧ (k0 t).n = onW (k0 t).w) ∨ (t.op = 14 ∧ (k0 t).w = 1 ∧ (k0 t).n = 0)) (c1 : ¬ (t.op = 10 ∧ (k0 t).n = 0)) :
    okT (oT 1 t.w 0 [k1 t]) = true ∧ meas (oT 1 t.w 0 [k1 t]) < meas t := by
  have hb : redS t = redB t := by unfold redS; rw [if_neg (by omega), if_neg (by omega), if_neg (by omega), if_neg (by omega), if_neg (by omega)]
  refine red_ok ht (by omega) ?_
  rw [hb]
  unfold redB
  rw [if_neg hs, if_neg (by omega), if_neg (by omega), if_neg (by omega), if_pos ⟨h0, c4⟩]
theorem on_word {w : Int} (h : inP w 1 16 = true) : wordP w (onW w) = true := by
  have F := wf h
  have h3 := F.s3
  exact word_of h (by show 0 ≤ (2 : Int) ^ w.toNat - 1; omega) (by show (2 : Int) ^ w.toNat - 1 < _; omega)
theorem fb_y {B : List Blk} {X : AV} {op w : Int} {a b : V.Term} (h : ∀ y, firstT op w a b = y → frzM B (.dat (.bool y.isSome)) X) : frzM B (.dat (.bool (firstT op w a b).isSome)) X := h _ rfl
theorem ft_y {B : List Blk} {X : AV} {op w : Int} {a b : V.Term} (h : ∀ y, firstT op w a b = y → frzM B (datT (y.getD zT)) X) : frzM B (datT ((firstT op w a b).getD zT)) X := h _ rfl
set_option maxHeartbeats 8000000 in
set_option maxRecDepth 100000 in
theorem i_reduceFirst (op w : Int) (a b : V.Term) (m : Nat) (ih : IHR m) (ha : inP a.w 1 16 = true) (hw : inP w 1 16 = true) (h9 : op = 9 → w = a.w) (hk : (op = 10 ∧ a.n = onW a.w) ∨ (op = 14 ∧ a.w = 1 ∧ a.n = 0) → ¬ (op = 10 ∧ a.n = 0) → okT (oT 1 w 0 [b]) = true ∧ meas (oT 1 w 0 [b]) < m) : CallsV Tryz.prog 193 [.dat (.i op), .dat (.i w), .agg [.dat (.i a.op), .dat (.i a.w), .dat (.i a.n), .dat (.str a.name), .dat (.seq .terms a.kids)], .agg [.dat (.i b.op), .dat (.i b.w), .dat (.i b.n), .dat (.str b.name), .dat (.seq .terms b.kids)]] (.tup [datT ((firstT op w a b).getD zT), .dat (.bool (firstT op w a b).isSome)]) := by
  refine CallsV.of_awp tauOk mixOk Tryz.func193 rfl rfl rfl ?_
  conv => whnf
  repeat' (first
    | ((with_reducible refine fun (K1 : AX → AState → Prop) hK => ?_); (with_reducible refine awp_rg ?_ ?_); exact rfl; conv => whnf)
    | ((with_reducible refine Alt.l ?_); conv => whnf)
    | ((with_reducible refine fun (K1 : AX → AState → Prop) hK => ?_); conv => whnf)
    | ((with_reducible show K1 _ _); subst hK; conv => whnf)
    | (with_reducible exact rfl)
    | ((with_reducible refine sp_T ?_); conv => whnf)
    | ((with_reducible refine sp_F ?_); conv => whnf)
    | ((with_reducible refine sp_eF ?_ ?_); decide; conv => whnf)
    | ((with_reducible refine sp_eT ?_); conv => whnf)
    | ((with_reducible refine sp_e (fun h => ?_) (fun h => ?_)) <;> first | contradiction | (subst h; conv => whnf) | (conv => whnf))
    | (refine ⟨(rfl : nodupB _ = true), rfl, ?_⟩; conv => whnf)
    | ((with_reducible refine and_of ?_ ?_); conv => whnf)
    | ((with_reducible refine pcI (g := 212) ?_); refine ⟨_, i_onesOf (hw := ?_) .., rfl, ?_⟩; rotate_right; conv => whnf)
    | ((with_reducible show Exists _); refine Exists.intro _ (And.intro (i_onesOf (hw := ?_) ..) (And.intro rfl ?_)); rotate_right; conv => whnf)
    | ((with_reducible refine pcI (g := 105) ?_); refine ⟨_, i_ConstTerm (h := ?_) .., rfl, ?_⟩; rotate_right; conv => whnf)
    | ((with_reducible show Exists _); refine Exists.intro _ (And.intro (i_ConstTerm (h := ?_) ..) (And.intro rfl ?_)); rotate_right; conv => whnf)
    | ((with_reducible refine pcI (g := 190) ?_); refine ⟨_, i_remake (ih := by assumption) (hk := ?_) (hm := ?_) .., rfl, ?_⟩; rotate_right; conv => whnf)
    | ((with_reducible show Exists _); refine Exists.intro _ (And.intro (i_remake (ih := by assumption) (hk := ?_) (hm := ?_) ..) (And.intro rfl ?_)); rotate_right; conv => whnf)
    | ((with_reducible refine zcI (g := 212) ?_); (conv => whnf); refine ⟨_, _, i_onesOf (hw := ?_) .., rfl, fun res B hRB => ?_⟩; rotate_right; obtain ⟨rfl, rfl⟩ := hRB; conv => whnf)
    | ((with_reducible refine zcI (g := 105) ?_); (conv => whnf); refine ⟨_, _, i_ConstTerm (h := ?_) .., rfl, fun res B hRB => ?_⟩; rotate_right; obtain ⟨rfl, rfl⟩ := hRB; conv => whnf)
    | ((with_reducible refine zcI (g := 190) ?_); (conv => whnf); refine ⟨_, _, i_remake (ih := by with_reducible assumption) (hk := ?_) (hm := ?_) .., rfl, fun res B hRB => ?_⟩; rotate_right; obtain ⟨rfl, rfl⟩ := hRB; conv => whnf)
    | ((with_reducible show awpOps _ _ _ _ _ _); conv => whnf)
    | (intro h; conv => whnf))
  all_goals (repeat (clear hK; clear K1))
  all_goals first
    | exact True.intro
    | exact ha
    | exact zero_word hw
    | (have e := h9 rfl; rw [e]; exact on_word ha)
    | (rw [V.Term.eta]; first | exact (hk (.inl ⟨rfl, by with_reducible assumption⟩) (by omega)).1 | exact (hk (.inl ⟨rfl, by with_reducible assumption⟩) (by omega)).2 | exact (hk (.inr ⟨rfl, by with_reducible assumption, by with_reducible assumption⟩) (by omega)).1 | exact (hk (.inr ⟨rfl, by with_reducible assumption, by with_reducible assumption⟩) (by omega)).2)
    | ((try simp only [V.Term.eta, onW] at *); first
        | ((first | refine fb_y fun y hz => ?_ | refine ft_y fun y hz => ?_); clear hk h9; unfold firstT onW at hz; (repeat (first | rw [if_pos (by omega)] at hz | rw [if_neg (by omega)] at hz)); subst hz; first
            | exact rfl
            | exact fr5M (V.Term.eta _).symm
            | exact fr5M rfl
            | exact fr5Mn rfl))
    | skip
end Vg
