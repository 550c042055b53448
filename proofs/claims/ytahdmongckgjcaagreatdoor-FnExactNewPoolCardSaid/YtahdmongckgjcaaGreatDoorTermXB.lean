/- Walks and laws that the proof leans on. No condition. -/
import Derived.Test.YtahdmongckgjcaaGreatDoorTermRB
import Derived.Test.YtahdmongckgjcaaGreatDoorDrw
namespace Vg
open Go Go.Proofs
set_option maxHeartbeats 8000000 in
set_option maxRecDepth 100000 in
theorem i_reduceCut (t : V.Term) (ih : IHR (meas t)) (ht : okT t = true) (ho : t.op = 19) (hc : allC t.kids = false) : CallsV Tryz.prog 162 [.agg [.dat (.i t.op), .dat (.i t.w), .dat (.i t.n), .dat (.str t.name), .dat (.seq .terms t.kids)]] (datT (mkT t)) := by
  refine CallsV.of_awp tauOk mixOk Tryz.func162 rfl rfl rfl ?_
  conv => whnf
  repeat' (first
    | ((with_reducible refine fun (K1 : AX → AState → Prop) hK => ?_); (with_reducible refine awp_rg ?_ ?_); exact rfl; conv => whnf)
    | (with_reducible refine frG ?_)
    | ((with_reducible refine fun (K1 : AX → AState → Prop) hK => ?_); (with_reducible refine awp_dw ?_ ?_); exact rfl; (conv => whnf); simp only [List.nil_append, List.cons_append])
    | ((with_reducible refine WRun_nil ?_); conv => whnf)
    | ((with_reducible refine WRun_go ?_ ?_); exact rfl; conv => whnf)
    | ((with_reducible refine WRun_skip ?_ ?_); exact rfl)
    | ((with_reducible refine WAg_nil ?_))
    | ((with_reducible refine WAg_go ?_ ?_); exact rfl; conv => whnf)
    | ((with_reducible refine WAg_skip ?_ ?_); exact rfl)
    | ((with_reducible refine WR_end ?_ ?_); exact rfl; conv => whnf)
    | ((with_reducible show WR _ _ _ _ _ _ _ _ _); refine WR_go rfl ?_)
    | ((with_reducible show WEach _ _); refine WEach_one rfl ?_; conv => whnf)
    | ((with_reducible refine Alt.l ?_); conv => whnf)
    | ((with_reducible refine fun (K1 : AX → AState → Prop) hK => ?_); conv => whnf)
    | ((with_reducible show K1 _ _); subst hK; conv => whnf)
    | (with_reducible exact rfl)
    | ((with_reducible refine sp_T ?_); conv => whnf)
    | ((with_reducible refine sp_F ?_); conv => whnf)
    | ((with_reducible refine sp_d (fun h => ?_) (fun h => ?_)) <;> first | contradiction | (subst h; conv => whnf) | (conv => whnf))
    | ((with_reducible refine sp_e (fun h => ?_) (fun h => ?_)) <;> first | contradiction | (subst h; conv => whnf) | (conv => whnf))
    | (refine ⟨(rfl : nodupB _ = true), rfl, ?_⟩; conv => whnf)
    | (with_reducible refine bnd2 ?_ ?_)
    | ((with_reducible refine and_of ?_ ?_); conv => whnf)
    | ((with_reducible show Exists _); refine Exists.intro _ (And.intro (i_remake (ih := by assumption) (hk := ?_) (hm := ?_) ..) (And.intro rfl ?_)); rotate_right; conv => whnf)
    | ((with_reducible refine zcI (g := 190) ?_); (conv => whnf); refine ⟨_, _, i_remake (ih := by with_reducible assumption) (hk := ?_) (hm := ?_) .., rfl, fun res B hRB => ?_⟩; rotate_right; obtain ⟨rfl, rfl⟩ := hRB; conv => whnf)
    | ((with_reducible show awpOps _ _ _ _ _ _); conv => whnf)
    | (intro h; conv => whnf))
  all_goals (repeat (clear hK; clear K1))
  all_goals first
    | exact True.intro
    | ((with_reducible show (_ : Int) ≤ _); omega)
    | ((with_reducible show (_ : Int) < _); first
        | exact lt_u0 ht (by omega)
        | exact lt_b0 ht (by omega)
        | exact lt_b1 ht (by omega)
        | exact lt_u0 (ok0 ht (by omega)) (by omega)
        | exact lt_b0 (ok0 ht (by omega)) (by omega)
        | exact lt_b1 (ok0 ht (by omega)) (by omega)
        | exact lt_i0 (ok0 ht (by omega)) (by omega)
        | exact lt_i1 (ok0 ht (by omega)) (by omega)
        | exact lt_i2 (ok0 ht (by omega)) (by omega)
        | exact lt_u0 (ok1 ht (by omega)) (by omega)
        | exact lt_b0 (ok1 ht (by omega)) (by omega)
        | exact lt_b1 (ok1 ht (by omega)) (by omega)
        | exact lt_i0 (ok1 ht (by omega)) (by omega)
        | exact lt_i1 (ok1 ht (by omega)) (by omega)
        | exact lt_i2 (ok1 ht (by omega)) (by omega)
        | omega)
    | (have b0 := fit_c ht (by omega); have wt := okT_w ht; have w0 := okT_w (ok0 ht (by omega)); have c0 := fun h => fit_c (ok0 ht (by omega)) h; have v0 := fun h => okT_w (ok1 (ok0 ht (by omega)) h); have v1 := fun h => okT_w (ok0 (ok0 ht (by omega)) h); (simp only [V.Term.eta, Int.toNat_zero, Int.toNat_one, k0, k1, kAt] at *; (try simp only [wrap_id (n := t.n + t.w) (by omega) (by omega)] at *); (try simp only [wrap_id (n := t.n + (t.kids.getD 0 K.terms.dflt).n) (by omega) (by omega)] at *); (try simp only [wrap_id (n := t.n - ((t.kids.getD 0 K.terms.dflt).kids.getD 1 K.terms.dflt).w) (by omega) (by omega)] at *); (try (refine ⟨fr5 (t := mkT t) ?_⟩; (try rw [V.Term.eta]))); first
        | omega
        | (obtain ⟨y, hr⟩ : ∃ y, redS t = y := ⟨_, rfl⟩; have hz := hr; unfold redS redC at hz; simp only [k0, k1, kAt] at hz; (repeat (first | rw [if_pos (by omega)] at hz | rw [if_neg (by omega)] at hz | rw [if_pos (by unfold swaps; omega)] at hz | rw [if_neg (by unfold swaps; omega)] at hz)); rw [← hz] at hr; (try rw [ho] at hr); first
            | exact lf_e ht (by omega) hc hr
            | exact ⟨fr5n (t := mkT t) (lf_e ht (by omega) hc hr)⟩
            | exact (red_ok ht (by omega) hr).1
            | exact (red_ok ht (by omega) hr).2)))
    | skip
end Vg

namespace Vg
open Go Go.Proofs
set_option maxHeartbeats 8000000 in
set_option maxRecDepth 100000 in
theorem i_reduceWiden (t : V.Term) (ih : IHR (meas t)) (ht : okT t = true) (ho : t.op = 20 ∨ t.op = 21) (hc : allC t.kids = false) : CallsV Tryz.prog 163 [.agg [.dat (.i t.op), .dat (.i t.w), .dat (.i t.n), .dat (.str t.name), .dat (.seq .terms t.kids)]] (datT (mkT t)) := by
  refine CallsV.of_awp tauOk mixOk Tryz.func163 rfl rfl rfl ?_
  conv => whnf
  repeat' (first
    | ((with_reducible refine fun (K1 : AX → AState → Prop) hK => ?_); (with_reducible refine awp_rg ?_ ?_); exact rfl; conv => whnf)
    | (with_reducible refine frG ?_)
    | ((with_reducible refine fun (K1 : AX → AState → Prop) hK => ?_); (with_reducible refine awp_dw ?_ ?_); exact rfl; (conv => whnf); simp only [List.nil_append, List.cons_append])
    | ((with_reducible refine WRun_nil ?_); conv => whnf)
    | ((with_reducible refine WRun_go ?_ ?_); exact rfl; conv => whnf)
    | ((with_reducible refine WRun_skip ?_ ?_); exact rfl)
    | ((with_reducible refine WAg_nil ?_))
    | ((with_reducible refine WAg_go ?_ ?_); exact rfl; conv => whnf)
    | ((with_reducible refine WAg_skip ?_ ?_); exact rfl)
    | ((with_reducible refine WR_end ?_ ?_); exact rfl; conv => whnf)
    | ((with_reducible show WR _ _ _ _ _ _ _ _ _); refine WR_go rfl ?_)
    | ((with_reducible show WEach _ _); refine WEach_one rfl ?_; conv => whnf)
    | ((with_reducible refine Alt.l ?_); conv => whnf)
    | ((with_reducible refine fun (K1 : AX → AState → Prop) hK => ?_); conv => whnf)
    | ((with_reducible show K1 _ _); subst hK; conv => whnf)
    | (with_reducible exact rfl)
    | ((with_reducible refine sp_e (fun h => ?_) (fun h => ?_)) <;> first | contradiction | (subst h; conv => whnf) | (conv => whnf))
    | (refine ⟨(rfl : nodupB _ = true), rfl, ?_⟩; conv => whnf)
    | (with_reducible refine bnd2 ?_ ?_)
    | ((with_reducible refine and_of ?_ ?_); conv => whnf)
    | ((with_reducible show Exists _); refine Exists.intro _ (And.intro (i_remake (ih := by assumption) (hk := ?_) (hm := ?_) ..) (And.intro rfl ?_)); rotate_right; conv => whnf)
    | ((with_reducible refine zcI (g := 190) ?_); (conv => whnf); refine ⟨_, _, i_remake (ih := by with_reducible assumption) (hk := ?_) (hm := ?_) .., rfl, fun res B hRB => ?_⟩; rotate_right; obtain ⟨rfl, rfl⟩ := hRB; conv => whnf)
    | ((with_reducible show awpOps _ _ _ _ _ _); conv => whnf)
    | (intro h; conv => whnf))
  all_goals (repeat (clear hK; clear K1))
  all_goals first
    | exact True.intro
    | ((with_reducible show (_ : Int) ≤ _); omega)
    | ((with_reducible show (_ : Int) < _); first
        | exact lt_u0 ht (by omega)
        | exact lt_u0 (ok0 ht (by omega)) (by omega)
        | exact lt_b0 (ok0 ht (by omega)) (by omega)
        | exact lt_b1 (ok0 ht (by omega)) (by omega)
        | exact lt_i0 (ok0 ht (by omega)) (by omega)
        | exact lt_i1 (ok0 ht (by omega)) (by omega)
        | exact lt_i2 (ok0 ht (by omega)) (by omega)
        | exact lt_u0 (ok1 ht (by omega)) (by omega)
        | omega)
    | ((simp only [V.Term.eta, Int.toNat_zero] at *; (try (refine ⟨fr5 (t := mkT t) ?_⟩; (try rw [V.Term.eta]))); first
        | omega
        | (obtain ⟨y, hr⟩ : ∃ y, redS t = y := ⟨_, rfl⟩; have hz := hr; unfold redS redW at hz; simp only [k0, kAt] at hz; (repeat (first | rw [if_pos (by omega)] at hz | rw [if_neg (by omega)] at hz | rw [if_pos (by unfold swaps; omega)] at hz | rw [if_neg (by unfold swaps; omega)] at hz)); rw [← hz] at hr; (try rw [ho] at hr); first
            | exact lf_e ht (by omega) hc hr
            | exact ⟨fr5n (t := mkT t) (lf_e ht (by omega) hc hr)⟩
            | exact (red_ok ht (by omega) hr).1
            | exact (red_ok ht (by omega) hr).2)))
    | skip
end Vg
