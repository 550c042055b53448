/- Walks and laws that the proof leans on. No condition. -/
import Derived.Test.YtahdmongckgjcaaGreatDoorTermBL
namespace Vg
open Go Go.Proofs
set_option maxHeartbeats 8000000 in
set_option maxRecDepth 100000 in
theorem i_rB7 (t : V.Term) (ih : IHR (meas t)) (ht : okT t = true) (ho : t.op = 7) (hc : allC t.kids = false) : CallsV Tryz.prog 165 [.agg [.dat (.i 7), .dat (.i t.w), .dat (.i t.n), .dat (.str t.name), .dat (.seq .terms t.kids)]] (datT (mkT t)) := by
  refine CallsV.of_awp tauOk mixOk Tryz.func165 rfl rfl rfl ?_
  conv => whnf
  repeat' (first
    | ((with_reducible refine fun (K1 : AX → AState → Prop) hK => ?_); (with_reducible refine awp_rg ?_ ?_); exact rfl; conv => whnf)
    | (with_reducible refine frG ?_)
    | ((with_reducible refine fun (K1 : AX → AState → Prop) hK => ?_); (with_reducible refine awp_dw ?_ ?_); exact rfl; (conv => whnf); simp only [List.nil_append, List.cons_append])
    | ((with_reducible refine WRun_nil ?_); conv => whnf)
    | ((with_reducible refine WRun_go ?_ ?_); exact rfl; conv => whnf)
    | ((with_reducible refine WRun_skip ?_ ?_); exact rfl)
    | ((with_reducible refine WAg_nil ?_))
    | ((with_reducible refine WAg_go ?_ ?_); exact rfl; conv => whnf)
    | ((with_reducible refine WAg_skip ?_ ?_); exact rfl)
    | ((with_reducible refine WR_end ?_ ?_); exact rfl; conv => whnf)
    | ((with_reducible show WR _ _ _ _ _ _ _ _ _); refine WR_go rfl ?_)
    | ((with_reducible show WEach _ _); refine WEach_one rfl ?_; conv => whnf)
    | ((with_reducible show WEach _ _); refine WEach_more rfl ?_ ?_; conv => whnf)
    | ((with_reducible refine fun (K1 : AX → AState → Prop) hK => ?_); conv => whnf)
    | ((with_reducible show K1 _ _); subst hK; conv => whnf)
    | (with_reducible exact rfl)
    | ((with_reducible refine sp_F ?_); conv => whnf)
    | ((with_reducible refine sp_dF ?_ ?_); decide; conv => whnf)
    | ((with_reducible refine sp_d (fun h => ?_) (fun h => ?_)) <;> first | contradiction | (subst h; conv => whnf) | (conv => whnf))
    | ((with_reducible refine sp_eF ?_ ?_); decide; conv => whnf)
    | ((with_reducible refine sp_e (fun h => ?_) (fun h => ?_)) <;> first | contradiction | (subst h; conv => whnf) | (conv => whnf))
    | ((with_reducible refine sp_b (fun h => ?_) (fun h => ?_)) <;> first | (exact Bool.noConfusion (Eq.trans (Eq.symm h) (show _ = true by with_reducible assumption))) | (exact Bool.noConfusion (Eq.trans (Eq.symm (show _ = false by with_reducible assumption)) h)) | (conv => whnf))
    | (refine ⟨(rfl : nodupB _ = true), rfl, ?_⟩; conv => whnf)
    | (with_reducible refine bnd2 ?_ ?_)
    | ((with_reducible refine and_of ?_ ?_); conv => whnf)
    | ((with_reducible refine pcI (g := 191) ?_); refine ⟨_, i_swapsKids .., rfl, ?_⟩; rotate_right; conv => whnf)
    | ((with_reducible show Exists _); refine Exists.intro _ (And.intro (i_swapsKids ..) (And.intro rfl ?_)); rotate_right; conv => whnf)
    | ((with_reducible refine pcI (g := 124) ?_); refine ⟨_, i_isConst .., rfl, ?_⟩; rotate_right; conv => whnf)
    | ((with_reducible show Exists _); refine Exists.intro _ (And.intro (i_isConst ..) (And.intro rfl ?_)); rotate_right; conv => whnf)
    | ((with_reducible refine pcI (g := 193) ?_); refine ⟨_, i_first (ih := by assumption) (ha := ?_) (hw := ?_) (h9 := ?_) (hk := ?_) .., rfl, ?_⟩; rotate_right; conv => whnf)
    | ((with_reducible show Exists _); refine Exists.intro _ (And.intro (i_first (ih := by assumption) (ha := ?_) (hw := ?_) (h9 := ?_) (hk := ?_) ..) (And.intro rfl ?_)); rotate_right; conv => whnf)
    | ((with_reducible refine pcI (g := 121) ?_); refine ⟨_, i_constIs .., rfl, ?_⟩; rotate_right; conv => whnf)
    | ((with_reducible show Exists _); refine Exists.intro _ (And.intro (i_constIs ..) (And.intro rfl ?_)); rotate_right; conv => whnf)
    | ((with_reducible refine pcI (g := 189) ?_); refine ⟨_, i_sameTerm .., rfl, ?_⟩; rotate_right; conv => whnf)
    | ((with_reducible show Exists _); refine Exists.intro _ (And.intro (i_sameTerm ..) (And.intro rfl ?_)); rotate_right; conv => whnf)
    | ((with_reducible show awpOps _ _ _ _ _ _); conv => whnf)
    | (intro h; conv => whnf))
  all_goals (repeat (clear hK; clear K1))
  all_goals first
    | exact True.intro
    | ((with_reducible show (_ : Int) ≤ _); omega)
    | ((with_reducible show (_ : Int) < _); first | exact lt_b0 ht (by omega) | exact lt_b1 ht (by omega) | exact lt_b0 (ok1 ht (by omega)) (by omega) | exact lt_b1 (ok1 ht (by omega)) (by omega) | omega)
    | ((with_reducible show inP _ _ _ = true); first | exact okT_w' ht | exact okT_w' (ok0 ht (by omega)))
    | ((with_reducible show F9 _ _ _); exact f9_of ht ho (by omega))
    | ((with_reducible show FK _ _ _ _ _); (try simp only [Int.toNat_zero, Int.toNat_one] at *); exact fk_of ht ho (by omega) (ns_7 ho) (by with_reducible assumption))
    | ((with_reducible show wordP _ _ = true); (try simp only [V.Term.eta, Int.toNat_zero, Int.toNat_one] at *); first | exact zero_word (okT_w' ht) | decide | exact wd_1 ht ho (by omega) (by with_reducible assumption) (by with_reducible assumption) (by with_reducible assumption))
    | ((with_reducible show okT (oT _ _ _ _) = true); (try simp only [V.Term.eta, Int.toNat_zero, Int.toNat_one] at *); obtain ⟨y, hy⟩ : ∃ y, redB t = y := ⟨_, rfl⟩; have hz := hy; (first | rw [rb_no0 (ns_7 ho) (by with_reducible assumption)] at hz | rw [n1_7 ho (ns_7 ho) (by with_reducible assumption)] at hz); rw [r2_7 ho] at hz; (repeat (first | rw [if_pos (by with_reducible assumption)] at hz | rw [if_neg (by with_reducible assumption)] at hz | rw [if_pos ⟨by with_reducible assumption, by with_reducible assumption, by with_reducible assumption⟩] at hz | rw [if_neg (and_z1 (by with_reducible assumption))] at hz | rw [if_neg (and_z2 (by with_reducible assumption))] at hz | rw [if_neg (and_z3 (by with_reducible assumption))] at hz)); rw [← hz] at hy; exact (lb_ok ht (by omega) hy).1)
    | ((with_reducible show meas _ < _); (try simp only [V.Term.eta, Int.toNat_zero, Int.toNat_one] at *); obtain ⟨y, hy⟩ : ∃ y, redB t = y := ⟨_, rfl⟩; have hz := hy; (first | rw [rb_no0 (ns_7 ho) (by with_reducible assumption)] at hz | rw [n1_7 ho (ns_7 ho) (by with_reducible assumption)] at hz); rw [r2_7 ho] at hz; (repeat (first | rw [if_pos (by with_reducible assumption)] at hz | rw [if_neg (by with_reducible assumption)] at hz | rw [if_pos ⟨by with_reducible assumption, by with_reducible assumption, by with_reducible assumption⟩] at hz | rw [if_neg (and_z1 (by with_reducible assumption))] at hz | rw [if_neg (and_z2 (by with_reducible assumption))] at hz | rw [if_neg (and_z3 (by with_reducible assumption))] at hz)); rw [← hz] at hy; exact (lb_ok ht (by omega) hy).2)
    | ((show Nat.le (Nat.succ (meas (oT _ _ _ _))) _); (try simp only [V.Term.eta, Int.toNat_zero, Int.toNat_one] at *); obtain ⟨y, hy⟩ : ∃ y, redB t = y := ⟨_, rfl⟩; have hz := hy; (first | rw [rb_no0 (ns_7 ho) (by with_reducible assumption)] at hz | rw [n1_7 ho (ns_7 ho) (by with_reducible assumption)] at hz); rw [r2_7 ho] at hz; (repeat (first | rw [if_pos (by with_reducible assumption)] at hz | rw [if_neg (by with_reducible assumption)] at hz | rw [if_pos ⟨by with_reducible assumption, by with_reducible assumption, by with_reducible assumption⟩] at hz | rw [if_neg (and_z1 (by with_reducible assumption))] at hz | rw [if_neg (and_z2 (by with_reducible assumption))] at hz | rw [if_neg (and_z3 (by with_reducible assumption))] at hz)); rw [← hz] at hy; exact (lb_ok ht (by omega) hy).2)
    | ((with_reducible show Fr _); (try simp only [V.Term.eta, Int.toNat_zero, Int.toNat_one] at *); first
        | exact ⟨fr5 ((fi_of ht ho (by omega) hc (ns_7 ho) (by with_reducible assumption) (by with_reducible assumption)).trans (V.Term.eta _).symm)⟩
        | (obtain ⟨y, hy⟩ : ∃ y, redB t = y := ⟨_, rfl⟩; have hz := hy; (first | rw [rb_no0 (ns_7 ho) (by with_reducible assumption)] at hz | rw [n1_7 ho (ns_7 ho) (by with_reducible assumption)] at hz); rw [r2_7 ho] at hz; (repeat (first | rw [if_pos (by with_reducible assumption)] at hz | rw [if_neg (by with_reducible assumption)] at hz | rw [if_pos ⟨by with_reducible assumption, by with_reducible assumption, by with_reducible assumption⟩] at hz | rw [if_neg (and_z1 (by with_reducible assumption))] at hz | rw [if_neg (and_z2 (by with_reducible assumption))] at hz | rw [if_neg (and_z3 (by with_reducible assumption))] at hz)); rw [← hz] at hy; first
            | exact ⟨fr5 ((lb_f ht (by omega) hc hy).trans (V.Term.eta _).symm)⟩
            | exact ⟨fr5 ((lb_f ht (by omega) hc hy).trans (te_of ho))⟩
            | exact ⟨fr5 (lb_f ht (by omega) hc hy)⟩
            | exact ⟨fr5 ((lb_t ht (by omega) hc hy).trans (V.Term.eta _).symm)⟩))
    | skip
end Vg

namespace Vg
open Go Go.Proofs
set_option maxHeartbeats 8000000 in
set_option maxRecDepth 100000 in
theorem i_rB8 (t : V.Term) (ih : IHR (meas t)) (ht : okT t = true) (ho : t.op = 8) (hc : allC t.kids = false) : CallsV Tryz.prog 165 [.agg [.dat (.i 8), .dat (.i t.w), .dat (.i t.n), .dat (.str t.name), .dat (.seq .terms t.kids)]] (datT (mkT t)) := by
  refine CallsV.of_awp tauOk mixOk Tryz.func165 rfl rfl rfl ?_
  conv => whnf
  repeat' (first
    | ((with_reducible refine fun (K1 : AX → AState → Prop) hK => ?_); (with_reducible refine awp_rg ?_ ?_); exact rfl; conv => whnf)
    | (with_reducible refine frG ?_)
    | ((with_reducible refine fun (K1 : AX → AState → Prop) hK => ?_); (with_reducible refine awp_dw ?_ ?_); exact rfl; (conv => whnf); simp only [List.nil_append, List.cons_append])
    | ((with_reducible refine WRun_nil ?_); conv => whnf)
    | ((with_reducible refine WRun_go ?_ ?_); exact rfl; conv => whnf)
    | ((with_reducible refine WRun_skip ?_ ?_); exact rfl)
    | ((with_reducible refine WAg_nil ?_))
    | ((with_reducible refine WAg_go ?_ ?_); exact rfl; conv => whnf)
    | ((with_reducible refine WAg_skip ?_ ?_); exact rfl)
    | ((with_reducible refine WR_end ?_ ?_); exact rfl; conv => whnf)
    | ((with_reducible show WR _ _ _ _ _ _ _ _ _); refine WR_go rfl ?_)
    | ((with_reducible show WEach _ _); refine WEach_one rfl ?_; conv => whnf)
    | ((with_reducible show WEach _ _); refine WEach_more rfl ?_ ?_; conv => whnf)
    | ((with_reducible refine Alt.l ?_); conv => whnf)
    | ((with_reducible refine fun (K1 : AX → AState → Prop) hK => ?_); conv => whnf)
    | ((with_reducible show K1 _ _); subst hK; conv => whnf)
    | (with_reducible exact rfl)
    | ((with_reducible refine sp_T ?_); conv => whnf)
    | ((with_reducible refine sp_F ?_); conv => whnf)
    | ((with_reducible refine sp_dT ?_ ?_); decide; conv => whnf)
    | ((with_reducible refine sp_d (fun h => ?_) (fun h => ?_)) <;> first | contradiction | (subst h; conv => whnf) | (conv => whnf))
    | ((with_reducible refine sp_eF ?_ ?_); decide; conv => whnf)
    | ((with_reducible refine sp_eT ?_); conv => whnf)
    | ((with_reducible refine sp_e (fun h => ?_) (fun h => ?_)) <;> first | contradiction | (subst h; conv => whnf) | (conv => whnf))
    | ((with_reducible refine sp_n (fun h => ?_) (fun h => ?_)) <;> first | contradiction | (subst h; conv => whnf) | (conv => whnf))
    | ((with_reducible refine sp_b (fun h => ?_) (fun h => ?_)) <;> first | (exact Bool.noConfusion (Eq.trans (Eq.symm h) (show _ = true by with_reducible assumption))) | (exact Bool.noConfusion (Eq.trans (Eq.symm (show _ = false by with_reducible assumption)) h)) | (conv => whnf))
    | (refine ⟨(rfl : nodupB _ = true), rfl, ?_⟩; conv => whnf)
    | (with_reducible refine bnd2 ?_ ?_)
    | ((with_reducible refine and_of ?_ ?_); conv => whnf)
    | ((with_reducible refine pcI (g := 191) ?_); refine ⟨_, i_swapsKids .., rfl, ?_⟩; rotate_right; conv => whnf)
    | ((with_reducible show Exists _); refine Exists.intro _ (And.intro (i_swapsKids ..) (And.intro rfl ?_)); rotate_right; conv => whnf)
    | ((with_reducible refine pcI (g := 192) ?_); refine ⟨_, i_CompareTerms .., rfl, ?_⟩; rotate_right; conv => whnf)
    | ((with_reducible show Exists _); refine Exists.intro _ (And.intro (i_CompareTerms ..) (And.intro rfl ?_)); rotate_right; conv => whnf)
    | ((with_reducible refine pcI (g := 190) ?_); refine ⟨_, i_remake (ih := by assumption) (hk := ?_) (hm := ?_) .., rfl, ?_⟩; rotate_right; conv => whnf)
    | ((with_reducible show Exists _); refine Exists.intro _ (And.intro (i_remake (ih := by assumption) (hk := ?_) (hm := ?_) ..) (And.intro rfl ?_)); rotate_right; conv => whnf)
    | ((with_reducible refine pcI (g := 124) ?_); refine ⟨_, i_isConst .., rfl, ?_⟩; rotate_right; conv => whnf)
    | ((with_reducible show Exists _); refine Exists.intro _ (And.intro (i_isConst ..) (And.intro rfl ?_)); rotate_right; conv => whnf)
    | ((with_reducible refine pcI (g := 193) ?_); refine ⟨_, i_first (ih := by assumption) (ha := ?_) (hw := ?_) (h9 := ?_) (hk := ?_) .., rfl, ?_⟩; rotate_right; conv => whnf)
    | ((with_reducible show Exists _); refine Exists.intro _ (And.intro (i_first (ih := by assumption) (ha := ?_) (hw := ?_) (h9 := ?_) (hk := ?_) ..) (And.intro rfl ?_)); rotate_right; conv => whnf)
    | ((with_reducible refine pcI (g := 121) ?_); refine ⟨_, i_constIs .., rfl, ?_⟩; rotate_right; conv => whnf)
    | ((with_reducible show Exists _); refine Exists.intro _ (And.intro (i_constIs ..) (And.intro rfl ?_)); rotate_right; conv => whnf)
    | ((with_reducible refine pcI (g := 105) ?_); refine ⟨_, i_ConstTerm (h := ?_) .., rfl, ?_⟩; rotate_right; conv => whnf)
    | ((with_reducible show Exists _); refine Exists.intro _ (And.intro (i_ConstTerm (h := ?_) ..) (And.intro rfl ?_)); rotate_right; conv => whnf)
    | ((with_reducible refine pcI (g := 189) ?_); refine ⟨_, i_sameTerm .., rfl, ?_⟩; rotate_right; conv => whnf)
    | ((with_reducible show Exists _); refine Exists.intro _ (And.intro (i_sameTerm ..) (And.intro rfl ?_)); rotate_right; conv => whnf)
    | ((with_reducible refine pcI (g := 188) ?_); refine ⟨_, i_ApplyBinary .., rfl, ?_⟩; rotate_right; conv => whnf)
    | ((with_reducible show Exists _); refine Exists.intro _ (And.intro (i_ApplyBinary ..) (And.intro rfl ?_)); rotate_right; conv => whnf)
    | ((with_reducible refine zcI (g := 191) ?_); (conv => whnf); refine ⟨_, _, i_swapsKids .., rfl, fun res B hRB => ?_⟩; rotate_right; obtain ⟨rfl, rfl⟩ := hRB; conv => whnf)
    | ((with_reducible refine zcI (g := 192) ?_); (conv => whnf); refine ⟨_, _, i_CompareTerms .., rfl, fun res B hRB => ?_⟩; rotate_right; obtain ⟨rfl, rfl⟩ := hRB; conv => whnf)
    | ((with_reducible refine zcI (g := 190) ?_); (conv => whnf); refine ⟨_, _, i_remake (ih := by with_reducible assumption) (hk := ?_) (hm := ?_) .., rfl, fun res B hRB => ?_⟩; rotate_right; obtain ⟨rfl, rfl⟩ := hRB; conv => whnf)
    | ((with_reducible refine zcI (g := 124) ?_); (conv => whnf); refine ⟨_, _, i_isConst .., rfl, fun res B hRB => ?_⟩; rotate_right; obtain ⟨rfl, rfl⟩ := hRB; conv => whnf)
    | ((with_reducible refine zcI (g := 193) ?_); (conv => whnf); refine ⟨_, _, i_first (ih := by with_reducible assumption) (ha := ?_) (hw := ?_) (h9 := ?_) (hk := ?_) .., rfl, fun res B hRB => ?_⟩; rotate_right; obtain ⟨rfl, rfl⟩ := hRB; conv => whnf)
    | ((with_reducible refine zcI (g := 121) ?_); (conv => whnf); refine ⟨_, _, i_constIs .., rfl, fun res B hRB => ?_⟩; rotate_right; obtain ⟨rfl, rfl⟩ := hRB; conv => whnf)
    | ((with_reducible refine zcI (g := 105) ?_); (conv => whnf); refine ⟨_, _, i_ConstTerm (h := ?_) .., rfl, fun res B hRB => ?_⟩; rotate_right; obtain ⟨rfl, rfl⟩ := hRB; conv => whnf)
    | ((with_reducible refine zcI (g := 189) ?_); (conv => whnf); refine ⟨_, _, i_sameTerm .., rfl, fun res B hRB => ?_⟩; rotate_right; obtain ⟨rfl, rfl⟩ := hRB; conv => whnf)
    | ((with_reducible refine zcI (g := 188) ?_); (conv => whnf); refine ⟨_, _, i_ApplyBinary .., rfl, fun res B hRB => ?_⟩; rotate_right; obtain ⟨rfl, rfl⟩ := hRB; conv => whnf)
    | ((with_reducible show awpOps _ _ _ _ _ _); conv => whnf)
    | (intro h; conv => whnf))
  all_goals (repeat (clear hK; clear K1))
  all_goals first
    | exact True.intro
    | ((with_reducible show (_ : Int) ≤ _); omega)
    | ((with_reducible show (_ : Int) < _); first | exact lt_b0 ht (by omega) | exact lt_b1 ht (by omega) | exact lt_b0 (ok1 ht (by omega)) (by omega) | exact lt_b1 (ok1 ht (by omega)) (by omega) | omega)
    | ((with_reducible show inP _ _ _ = true); first | exact okT_w' ht | exact okT_w' (ok0 ht (by omega)))
    | ((with_reducible show F9 _ _ _); exact f9_of ht ho (by omega))
    | ((with_reducible show FK _ _ _ _ _); (try simp only [V.Term.eta, Int.toNat_zero, Int.toNat_one] at *); exact fk_of ht ho (by omega) (ns_8 (by with_reducible assumption)) (by with_reducible assumption))
    | ((with_reducible show wordP _ _ = true); (try simp only [V.Term.eta, Int.toNat_zero, Int.toNat_one] at *); first | exact zero_word (okT_w' ht) | decide | exact wd_1 ht ho (by omega) (by with_reducible assumption) (by with_reducible assumption) (by with_reducible assumption))
    | ((with_reducible show okT (oT _ _ _ _) = true); (try simp only [V.Term.eta, Int.toNat_zero, Int.toNat_one] at *); obtain ⟨y, hy⟩ : ∃ y, redB t = y := ⟨_, rfl⟩; have hz := hy; (first | rw [sw_8 ho (by with_reducible assumption)] at hz | ((first | rw [rb_no0 (ns_8 (by with_reducible assumption)) (by with_reducible assumption)] at hz | rw [n1_8 ho (ns_8 (by with_reducible assumption)) (by with_reducible assumption)] at hz); rw [r2_8 ho] at hz; (repeat (first | rw [if_pos (by with_reducible assumption)] at hz | rw [if_neg (by with_reducible assumption)] at hz | rw [if_pos ⟨by with_reducible assumption, by with_reducible assumption, by with_reducible assumption⟩] at hz | rw [if_neg (and_z1 (by with_reducible assumption))] at hz | rw [if_neg (and_z2 (by with_reducible assumption))] at hz | rw [if_neg (and_z3 (by with_reducible assumption))] at hz)))); rw [← hz] at hy; exact (lb_ok ht (by omega) hy).1)
    | ((with_reducible show meas _ < _); (try simp only [V.Term.eta, Int.toNat_zero, Int.toNat_one] at *); obtain ⟨y, hy⟩ : ∃ y, redB t = y := ⟨_, rfl⟩; have hz := hy; (first | rw [sw_8 ho (by with_reducible assumption)] at hz | ((first | rw [rb_no0 (ns_8 (by with_reducible assumption)) (by with_reducible assumption)] at hz | rw [n1_8 ho (ns_8 (by with_reducible assumption)) (by with_reducible assumption)] at hz); rw [r2_8 ho] at hz; (repeat (first | rw [if_pos (by with_reducible assumption)] at hz | rw [if_neg (by with_reducible assumption)] at hz | rw [if_pos ⟨by with_reducible assumption, by with_reducible assumption, by with_reducible assumption⟩] at hz | rw [if_neg (and_z1 (by with_reducible assumption))] at hz | rw [if_neg (and_z2 (by with_reducible assumption))] at hz | rw [if_neg (and_z3 (by with_reducible assumption))] at hz)))); rw [← hz] at hy; exact (lb_ok ht (by omega) hy).2)
    | ((show Nat.le (Nat.succ (meas (oT _ _ _ _))) _); (try simp only [V.Term.eta, Int.toNat_zero, Int.toNat_one] at *); obtain ⟨y, hy⟩ : ∃ y, redB t = y := ⟨_, rfl⟩; have hz := hy; (first | rw [sw_8 ho (by with_reducible assumption)] at hz | ((first | rw [rb_no0 (ns_8 (by with_reducible assumption)) (by with_reducible assumption)] at hz | rw [n1_8 ho (ns_8 (by with_reducible assumption)) (by with_reducible assumption)] at hz); rw [r2_8 ho] at hz; (repeat (first | rw [if_pos (by with_reducible assumption)] at hz | rw [if_neg (by with_reducible assumption)] at hz | rw [if_pos ⟨by with_reducible assumption, by with_reducible assumption, by with_reducible assumption⟩] at hz | rw [if_neg (and_z1 (by with_reducible assumption))] at hz | rw [if_neg (and_z2 (by with_reducible assumption))] at hz | rw [if_neg (and_z3 (by with_reducible assumption))] at hz)))); rw [← hz] at hy; exact (lb_ok ht (by omega) hy).2)
    | ((with_reducible show Fr _); (try simp only [V.Term.eta, Int.toNat_zero, Int.toNat_one] at *); first
        | exact ⟨fr5 ((fi_of ht ho (by omega) hc (ns_8 (by with_reducible assumption)) (by with_reducible assumption) (by with_reducible assumption)).trans (V.Term.eta _).symm)⟩
        | (obtain ⟨y, hy⟩ : ∃ y, redB t = y := ⟨_, rfl⟩; have hz := hy; (first | rw [sw_8 ho (by with_reducible assumption)] at hz | ((first | rw [rb_no0 (ns_8 (by with_reducible assumption)) (by with_reducible assumption)] at hz | rw [n1_8 ho (ns_8 (by with_reducible assumption)) (by with_reducible assumption)] at hz); rw [r2_8 ho] at hz; (repeat (first | rw [if_pos (by with_reducible assumption)] at hz | rw [if_neg (by with_reducible assumption)] at hz | rw [if_pos ⟨by with_reducible assumption, by with_reducible assumption, by with_reducible assumption⟩] at hz | rw [if_neg (and_z1 (by with_reducible assumption))] at hz | rw [if_neg (and_z2 (by with_reducible assumption))] at hz | rw [if_neg (and_z3 (by with_reducible assumption))] at hz)))); rw [← hz] at hy; first
            | exact ⟨fr5 ((lb_f ht (by omega) hc hy).trans (V.Term.eta _).symm)⟩
            | exact ⟨fr5 ((lb_f ht (by omega) hc hy).trans (te_of ho))⟩
            | exact ⟨fr5 (lb_f ht (by omega) hc hy)⟩
            | exact ⟨fr5 ((lb_t ht (by omega) hc hy).trans (V.Term.eta _).symm)⟩))
    | skip
end Vg

namespace Vg
open Go Go.Proofs
set_option maxHeartbeats 8000000 in
set_option maxRecDepth 100000 in
theorem i_rB9 (t : V.Term) (ih : IHR (meas t)) (ht : okT t = true) (ho : t.op = 9) (hc : allC t.kids = false) : CallsV Tryz.prog 165 [.agg [.dat (.i 9), .dat (.i t.w), .dat (.i t.n), .dat (.str t.name), .dat (.seq .terms t.kids)]] (datT (mkT t)) := by
  refine CallsV.of_awp tauOk mixOk Tryz.func165 rfl rfl rfl ?_
  conv => whnf
  repeat' (first
    | ((with_reducible refine fun (K1 : AX → AState → Prop) hK => ?_); (with_reducible refine awp_rg ?_ ?_); exact rfl; conv => whnf)
    | (with_reducible refine frG ?_)
    | ((with_reducible refine fun (K1 : AX → AState → Prop) hK => ?_); (with_reducible refine awp_dw ?_ ?_); exact rfl; (conv => whnf); simp only [List.nil_append, List.cons_append])
    | ((with_reducible refine WRun_nil ?_); conv => whnf)
    | ((with_reducible refine WRun_go ?_ ?_); exact rfl; conv => whnf)
    | ((with_reducible refine WRun_skip ?_ ?_); exact rfl)
    | ((with_reducible refine WAg_nil ?_))
    | ((with_reducible refine WAg_go ?_ ?_); exact rfl; conv => whnf)
    | ((with_reducible refine WAg_skip ?_ ?_); exact rfl)
    | ((with_reducible refine WR_end ?_ ?_); exact rfl; conv => whnf)
    | ((with_reducible show WR _ _ _ _ _ _ _ _ _); refine WR_go rfl ?_)
    | ((with_reducible show WEach _ _); refine WEach_one rfl ?_; conv => whnf)
    | ((with_reducible show WEach _ _); refine WEach_more rfl ?_ ?_; conv => whnf)
    | ((with_reducible refine Alt.l ?_); conv => whnf)
    | ((with_reducible refine fun (K1 : AX → AState → Prop) hK => ?_); conv => whnf)
    | ((with_reducible show K1 _ _); subst hK; conv => whnf)
    | (with_reducible exact rfl)
    | ((with_reducible refine sp_T ?_); conv => whnf)
    | ((with_reducible refine sp_F ?_); conv => whnf)
    | ((with_reducible refine sp_dT ?_ ?_); decide; conv => whnf)
    | ((with_reducible refine sp_d (fun h => ?_) (fun h => ?_)) <;> first | contradiction | (subst h; conv => whnf) | (conv => whnf))
    | ((with_reducible refine sp_eF ?_ ?_); decide; conv => whnf)
    | ((with_reducible refine sp_eT ?_); conv => whnf)
    | ((with_reducible refine sp_e (fun h => ?_) (fun h => ?_)) <;> first | contradiction | (subst h; conv => whnf) | (conv => whnf))
    | ((with_reducible refine sp_n (fun h => ?_) (fun h => ?_)) <;> first | contradiction | (subst h; conv => whnf) | (conv => whnf))
    | ((with_reducible refine sp_b (fun h => ?_) (fun h => ?_)) <;> first | (exact Bool.noConfusion (Eq.trans (Eq.symm h) (show _ = true by with_reducible assumption))) | (exact Bool.noConfusion (Eq.trans (Eq.symm (show _ = false by with_reducible assumption)) h)) | (conv => whnf))
    | (refine ⟨(rfl : nodupB _ = true), rfl, ?_⟩; conv => whnf)
    | (with_reducible refine bnd2 ?_ ?_)
    | ((with_reducible refine and_of ?_ ?_); conv => whnf)
    | ((with_reducible refine pcI (g := 191) ?_); refine ⟨_, i_swapsKids .., rfl, ?_⟩; rotate_right; conv => whnf)
    | ((with_reducible show Exists _); refine Exists.intro _ (And.intro (i_swapsKids ..) (And.intro rfl ?_)); rotate_right; conv => whnf)
    | ((with_reducible refine pcI (g := 192) ?_); refine ⟨_, i_CompareTerms .., rfl, ?_⟩; rotate_right; conv => whnf)
    | ((with_reducible show Exists _); refine Exists.intro _ (And.intro (i_CompareTerms ..) (And.intro rfl ?_)); rotate_right; conv => whnf)
    | ((with_reducible refine pcI (g := 190) ?_); refine ⟨_, i_remake (ih := by assumption) (hk := ?_) (hm := ?_) .., rfl, ?_⟩; rotate_right; conv => whnf)
    | ((with_reducible show Exists _); refine Exists.intro _ (And.intro (i_remake (ih := by assumption) (hk := ?_) (hm := ?_) ..) (And.intro rfl ?_)); rotate_right; conv => whnf)
    | ((with_reducible refine pcI (g := 124) ?_); refine ⟨_, i_isConst .., rfl, ?_⟩; rotate_right; conv => whnf)
    | ((with_reducible show Exists _); refine Exists.intro _ (And.intro (i_isConst ..) (And.intro rfl ?_)); rotate_right; conv => whnf)
    | ((with_reducible refine pcI (g := 193) ?_); refine ⟨_, i_first (ih := by assumption) (ha := ?_) (hw := ?_) (h9 := ?_) (hk := ?_) .., rfl, ?_⟩; rotate_right; conv => whnf)
    | ((with_reducible show Exists _); refine Exists.intro _ (And.intro (i_first (ih := by assumption) (ha := ?_) (hw := ?_) (h9 := ?_) (hk := ?_) ..) (And.intro rfl ?_)); rotate_right; conv => whnf)
    | ((with_reducible refine pcI (g := 121) ?_); refine ⟨_, i_constIs .., rfl, ?_⟩; rotate_right; conv => whnf)
    | ((with_reducible show Exists _); refine Exists.intro _ (And.intro (i_constIs ..) (And.intro rfl ?_)); rotate_right; conv => whnf)
    | ((with_reducible refine pcI (g := 105) ?_); refine ⟨_, i_ConstTerm (h := ?_) .., rfl, ?_⟩; rotate_right; conv => whnf)
    | ((with_reducible show Exists _); refine Exists.intro _ (And.intro (i_ConstTerm (h := ?_) ..) (And.intro rfl ?_)); rotate_right; conv => whnf)
    | ((with_reducible refine pcI (g := 189) ?_); refine ⟨_, i_sameTerm .., rfl, ?_⟩; rotate_right; conv => whnf)
    | ((with_reducible show Exists _); refine Exists.intro _ (And.intro (i_sameTerm ..) (And.intro rfl ?_)); rotate_right; conv => whnf)
    | ((with_reducible refine pcI (g := 188) ?_); refine ⟨_, i_ApplyBinary .., rfl, ?_⟩; rotate_right; conv => whnf)
    | ((with_reducible show Exists _); refine Exists.intro _ (And.intro (i_ApplyBinary ..) (And.intro rfl ?_)); rotate_right; conv => whnf)
    | ((with_reducible refine zcI (g := 191) ?_); (conv => whnf); refine ⟨_, _, i_swapsKids .., rfl, fun res B hRB => ?_⟩; rotate_right; obtain ⟨rfl, rfl⟩ := hRB; conv => whnf)
    | ((with_reducible refine zcI (g := 192) ?_); (conv => whnf); refine ⟨_, _, i_CompareTerms .., rfl, fun res B hRB => ?_⟩; rotate_right; obtain ⟨rfl, rfl⟩ := hRB; conv => whnf)
    | ((with_reducible refine zcI (g := 190) ?_); (conv => whnf); refine ⟨_, _, i_remake (ih := by with_reducible assumption) (hk := ?_) (hm := ?_) .., rfl, fun res B hRB => ?_⟩; rotate_right; obtain ⟨rfl, rfl⟩ := hRB; conv => whnf)
    | ((with_reducible refine zcI (g := 124) ?_); (conv => whnf); refine ⟨_, _, i_isConst .., rfl, fun res B hRB => ?_⟩; rotate_right; obtain ⟨rfl, rfl⟩ := hRB; conv => whnf)
    | ((with_reducible refine zcI (g := 193) ?_); (conv => whnf); refine ⟨_, _, i_first (ih := by with_reducible assumption) (ha := ?_) (hw := ?_) (h9 := ?_) (hk := ?_) .., rfl, fun res B hRB => ?_⟩; rotate_right; obtain ⟨rfl, rfl⟩ := hRB; conv => whnf)
    | ((with_reducible refine zcI (g := 121) ?_); (conv => whnf); refine ⟨_, _, i_constIs .., rfl, fun res B hRB => ?_⟩; rotate_right; obtain ⟨rfl, rfl⟩ := hRB; conv => whnf)
    | ((with_reducible refine zcI (g := 105) ?_); (conv => whnf); refine ⟨_, _, i_ConstTerm (h := ?_) .., rfl, fun res B hRB => ?_⟩; rotate_right; obtain ⟨rfl, rfl⟩ := hRB; conv => whnf)
    | ((with_reducible refine zcI (g := 189) ?_); (conv => whnf); refine ⟨_, _, i_sameTerm .., rfl, fun res B hRB => ?_⟩; rotate_right; obtain ⟨rfl, rfl⟩ := hRB; conv => whnf)
    | ((with_reducible refine zcI (g := 188) ?_); (conv => whnf); refine ⟨_, _, i_ApplyBinary .., rfl, fun res B hRB => ?_⟩; rotate_right; obtain ⟨rfl, rfl⟩ := hRB; conv => whnf)
    | ((with_reducible show awpOps _ _ _ _ _ _); conv => whnf)
    | (intro h; conv => whnf))
  all_goals (repeat (clear hK; clear K1))
  all_goals first
    | exact True.intro
    | ((with_reducible show (_ : Int) ≤ _); omega)
    | ((with_reducible show (_ : Int) < _); first | exact lt_b0 ht (by omega) | exact lt_b1 ht (by omega) | exact lt_b0 (ok1 ht (by omega)) (by omega) | exact lt_b1 (ok1 ht (by omega)) (by omega) | omega)
    | ((with_reducible show inP _ _ _ = true); first | exact okT_w' ht | exact okT_w' (ok0 ht (by omega)))
    | ((with_reducible show F9 _ _ _); exact f9_of ht ho (by omega))
    | ((with_reducible show FK _ _ _ _ _); (try simp only [V.Term.eta, Int.toNat_zero, Int.toNat_one] at *); exact fk_of ht ho (by omega) (ns_9 (by with_reducible assumption)) (by with_reducible assumption))
    | ((with_reducible show wordP _ _ = true); (try simp only [V.Term.eta, Int.toNat_zero, Int.toNat_one] at *); first | exact zero_word (okT_w' ht) | decide | exact wd_1 ht ho (by omega) (by with_reducible assumption) (by with_reducible assumption) (by with_reducible assumption))
    | ((with_reducible show okT (oT _ _ _ _) = true); (try simp only [V.Term.eta, Int.toNat_zero, Int.toNat_one] at *); obtain ⟨y, hy⟩ : ∃ y, redB t = y := ⟨_, rfl⟩; have hz := hy; (first | rw [sw_9 ho (by with_reducible assumption)] at hz | ((first | rw [rb_no0 (ns_9 (by with_reducible assumption)) (by with_reducible assumption)] at hz | rw [n1_9 ho (ns_9 (by with_reducible assumption)) (by with_reducible assumption)] at hz); rw [r2_9 ho] at hz; (repeat (first | rw [if_pos (by with_reducible assumption)] at hz | rw [if_neg (by with_reducible assumption)] at hz | rw [if_pos ⟨by with_reducible assumption, by with_reducible assumption, by with_reducible assumption⟩] at hz | rw [if_neg (and_z1 (by with_reducible assumption))] at hz | rw [if_neg (and_z2 (by with_reducible assumption))] at hz | rw [if_neg (and_z3 (by with_reducible assumption))] at hz)))); rw [← hz] at hy; exact (lb_ok ht (by omega) hy).1)
    | ((with_reducible show meas _ < _); (try simp only [V.Term.eta, Int.toNat_zero, Int.toNat_one] at *); obtain ⟨y, hy⟩ : ∃ y, redB t = y := ⟨_, rfl⟩; have hz := hy; (first | rw [sw_9 ho (by with_reducible assumption)] at hz | ((first | rw [rb_no0 (ns_9 (by with_reducible assumption)) (by with_reducible assumption)] at hz | rw [n1_9 ho (ns_9 (by with_reducible assumption)) (by with_reducible assumption)] at hz); rw [r2_9 ho] at hz; (repeat (first | rw [if_pos (by with_reducible assumption)] at hz | rw [if_neg (by with_reducible assumption)] at hz | rw [if_pos ⟨by with_reducible assumption, by with_reducible assumption, by with_reducible assumption⟩] at hz | rw [if_neg (and_z1 (by with_reducible assumption))] at hz | rw [if_neg (and_z2 (by with_reducible assumption))] at hz | rw [if_neg (and_z3 (by with_reducible assumption))] at hz)))); rw [← hz] at hy; exact (lb_ok ht (by omega) hy).2)
    | ((show Nat.le (Nat.succ (meas (oT _ _ _ _))) _); (try simp only [V.Term.eta, Int.toNat_zero, Int.toNat_one] at *); obtain ⟨y, hy⟩ : ∃ y, redB t = y := ⟨_, rfl⟩; have hz := hy; (first | rw [sw_9 ho (by with_reducible assumption)] at hz | ((first | rw [rb_no0 (ns_9 (by with_reducible assumption)) (by with_reducible assumption)] at hz | rw [n1_9 ho (ns_9 (by with_reducible assumption)) (by with_reducible assumption)] at hz); rw [r2_9 ho] at hz; (repeat (first | rw [if_pos (by with_reducible assumption)] at hz | rw [if_neg (by with_reducible assumption)] at hz | rw [if_pos ⟨by with_reducible assumption, by with_reducible assumption, by with_reducible assumption⟩] at hz | rw [if_neg (and_z1 (by with_reducible assumption))] at hz | rw [if_neg (and_z2 (by with_reducible assumption))] at hz | rw [if_neg (and_z3 (by with_reducible assumption))] at hz)))); rw [← hz] at hy; exact (lb_ok ht (by omega) hy).2)
    | ((with_reducible show Fr _); (try simp only [V.Term.eta, Int.toNat_zero, Int.toNat_one] at *); first
        | exact ⟨fr5 ((fi_of ht ho (by omega) hc (ns_9 (by with_reducible assumption)) (by with_reducible assumption) (by with_reducible assumption)).trans (V.Term.eta _).symm)⟩
        | (obtain ⟨y, hy⟩ : ∃ y, redB t = y := ⟨_, rfl⟩; have hz := hy; (first | rw [sw_9 ho (by with_reducible assumption)] at hz | ((first | rw [rb_no0 (ns_9 (by with_reducible assumption)) (by with_reducible assumption)] at hz | rw [n1_9 ho (ns_9 (by with_reducible assumption)) (by with_reducible assumption)] at hz); rw [r2_9 ho] at hz; (repeat (first | rw [if_pos (by with_reducible assumption)] at hz | rw [if_neg (by with_reducible assumption)] at hz | rw [if_pos ⟨by with_reducible assumption, by with_reducible assumption, by with_reducible assumption⟩] at hz | rw [if_neg (and_z1 (by with_reducible assumption))] at hz | rw [if_neg (and_z2 (by with_reducible assumption))] at hz | rw [if_neg (and_z3 (by with_reducible assumption))] at hz)))); rw [← hz] at hy; first
            | exact ⟨fr5 ((lb_f ht (by omega) hc hy).trans (V.Term.eta _).symm)⟩
            | exact ⟨fr5 ((lb_f ht (by omega) hc hy).trans (te_of ho))⟩
            | exact ⟨fr5 (lb_f ht (by omega) hc hy)⟩
            | exact ⟨fr5 ((lb_t ht (by omega) hc hy).trans (V.Term.eta _).symm)⟩))
    | skip
end Vg

namespace Vg
open Go Go.Proofs
set_option maxHeartbeats 8000000 in
set_option maxRecDepth 100000 in
theorem i_rB10 (t : V.Term) (ih : IHR (meas t)) (ht : okT t = true) (ho : t.op = 10) (hc : allC t.kids = false) : CallsV Tryz.prog 165 [.agg [.dat (.i 10), .dat (.i t.w), .dat (.i t.n), .dat (.str t.name), .dat (.seq .terms t.kids)]] (datT (mkT t)) := by
  refine CallsV.of_awp tauOk mixOk Tryz.func165 rfl rfl rfl ?_
  conv => whnf
  repeat' (first
    | ((with_reducible refine fun (K1 : AX → AState → Prop) hK => ?_); (with_reducible refine awp_rg ?_ ?_); exact rfl; conv => whnf)
    | (with_reducible refine frG ?_)
    | ((with_reducible refine fun (K1 : AX → AState → Prop) hK => ?_); (with_reducible refine awp_dw ?_ ?_); exact rfl; (conv => whnf); simp only [List.nil_append, List.cons_append])
    | ((with_reducible refine WRun_nil ?_); conv => whnf)
    | ((with_reducible refine WRun_go ?_ ?_); exact rfl; conv => whnf)
    | ((with_reducible refine WRun_skip ?_ ?_); exact rfl)
    | ((with_reducible refine WAg_nil ?_))
    | ((with_reducible refine WAg_go ?_ ?_); exact rfl; conv => whnf)
    | ((with_reducible refine WAg_skip ?_ ?_); exact rfl)
    | ((with_reducible refine WR_end ?_ ?_); exact rfl; conv => whnf)
    | ((with_reducible show WR _ _ _ _ _ _ _ _ _); refine WR_go rfl ?_)
    | ((with_reducible show WEach _ _); refine WEach_one rfl ?_; conv => whnf)
    | ((with_reducible show WEach _ _); refine WEach_more rfl ?_ ?_; conv => whnf)
    | ((with_reducible refine Alt.l ?_); conv => whnf)
    | ((with_reducible refine fun (K1 : AX → AState → Prop) hK => ?_); conv => whnf)
    | ((with_reducible show K1 _ _); subst hK; conv => whnf)
    | (with_reducible exact rfl)
    | ((with_reducible refine sp_T ?_); conv => whnf)
    | ((with_reducible refine sp_F ?_); conv => whnf)
    | ((with_reducible refine sp_dT ?_ ?_); decide; conv => whnf)
    | ((with_reducible refine sp_d (fun h => ?_) (fun h => ?_)) <;> first | contradiction | (subst h; conv => whnf) | (conv => whnf))
    | ((with_reducible refine sp_eF ?_ ?_); decide; conv => whnf)
    | ((with_reducible refine sp_eT ?_); conv => whnf)
    | ((with_reducible refine sp_e (fun h => ?_) (fun h => ?_)) <;> first | contradiction | (subst h; conv => whnf) | (conv => whnf))
    | ((with_reducible refine sp_n (fun h => ?_) (fun h => ?_)) <;> first | contradiction | (subst h; conv => whnf) | (conv => whnf))
    | ((with_reducible refine sp_b (fun h => ?_) (fun h => ?_)) <;> first | (exact Bool.noConfusion (Eq.trans (Eq.symm h) (show _ = true by with_reducible assumption))) | (exact Bool.noConfusion (Eq.trans (Eq.symm (show _ = false by with_reducible assumption)) h)) | (conv => whnf))
    | (refine ⟨(rfl : nodupB _ = true), rfl, ?_⟩; conv => whnf)
    | (with_reducible refine bnd2 ?_ ?_)
    | ((with_reducible refine and_of ?_ ?_); conv => whnf)
    | ((with_reducible refine pcI (g := 191) ?_); refine ⟨_, i_swapsKids .., rfl, ?_⟩; rotate_right; conv => whnf)
    | ((with_reducible show Exists _); refine Exists.intro _ (And.intro (i_swapsKids ..) (And.intro rfl ?_)); rotate_right; conv => whnf)
    | ((with_reducible refine pcI (g := 192) ?_); refine ⟨_, i_CompareTerms .., rfl, ?_⟩; rotate_right; conv => whnf)
    | ((with_reducible show Exists _); refine Exists.intro _ (And.intro (i_CompareTerms ..) (And.intro rfl ?_)); rotate_right; conv => whnf)
    | ((with_reducible refine pcI (g := 190) ?_); refine ⟨_, i_remake (ih := by assumption) (hk := ?_) (hm := ?_) .., rfl, ?_⟩; rotate_right; conv => whnf)
    | ((with_reducible show Exists _); refine Exists.intro _ (And.intro (i_remake (ih := by assumption) (hk := ?_) (hm := ?_) ..) (And.intro rfl ?_)); rotate_right; conv => whnf)
    | ((with_reducible refine pcI (g := 124) ?_); refine ⟨_, i_isConst .., rfl, ?_⟩; rotate_right; conv => whnf)
    | ((with_reducible show Exists _); refine Exists.intro _ (And.intro (i_isConst ..) (And.intro rfl ?_)); rotate_right; conv => whnf)
    | ((with_reducible refine pcI (g := 193) ?_); refine ⟨_, i_first (ih := by assumption) (ha := ?_) (hw := ?_) (h9 := ?_) (hk := ?_) .., rfl, ?_⟩; rotate_right; conv => whnf)
    | ((with_reducible show Exists _); refine Exists.intro _ (And.intro (i_first (ih := by assumption) (ha := ?_) (hw := ?_) (h9 := ?_) (hk := ?_) ..) (And.intro rfl ?_)); rotate_right; conv => whnf)
    | ((with_reducible refine pcI (g := 121) ?_); refine ⟨_, i_constIs .., rfl, ?_⟩; rotate_right; conv => whnf)
    | ((with_reducible show Exists _); refine Exists.intro _ (And.intro (i_constIs ..) (And.intro rfl ?_)); rotate_right; conv => whnf)
    | ((with_reducible refine pcI (g := 105) ?_); refine ⟨_, i_ConstTerm (h := ?_) .., rfl, ?_⟩; rotate_right; conv => whnf)
    | ((with_reducible show Exists _); refine Exists.intro _ (And.intro (i_ConstTerm (h := ?_) ..) (And.intro rfl ?_)); rotate_right; conv => whnf)
    | ((with_reducible refine pcI (g := 189) ?_); refine ⟨_, i_sameTerm .., rfl, ?_⟩; rotate_right; conv => whnf)
    | ((with_reducible show Exists _); refine Exists.intro _ (And.intro (i_sameTerm ..) (And.intro rfl ?_)); rotate_right; conv => whnf)
    | ((with_reducible refine pcI (g := 188) ?_); refine ⟨_, i_ApplyBinary .., rfl, ?_⟩; rotate_right; conv => whnf)
    | ((with_reducible show Exists _); refine Exists.intro _ (And.intro (i_ApplyBinary ..) (And.intro rfl ?_)); rotate_right; conv => whnf)
    | ((with_reducible refine zcI (g := 191) ?_); (conv => whnf); refine ⟨_, _, i_swapsKids .., rfl, fun res B hRB => ?_⟩; rotate_right; obtain ⟨rfl, rfl⟩ := hRB; conv => whnf)
    | ((with_reducible refine zcI (g := 192) ?_); (conv => whnf); refine ⟨_, _, i_CompareTerms .., rfl, fun res B hRB => ?_⟩; rotate_right; obtain ⟨rfl, rfl⟩ := hRB; conv => whnf)
    | ((with_reducible refine zcI (g := 190) ?_); (conv => whnf); refine ⟨_, _, i_remake (ih := by with_reducible assumption) (hk := ?_) (hm := ?_) .., rfl, fun res B hRB => ?_⟩; rotate_right; obtain ⟨rfl, rfl⟩ := hRB; conv => whnf)
    | ((with_reducible refine zcI (g := 124) ?_); (conv => whnf); refine ⟨_, _, i_isConst .., rfl, fun res B hRB => ?_⟩; rotate_right; obtain ⟨rfl, rfl⟩ := hRB; conv => whnf)
    | ((with_reducible refine zcI (g := 193) ?_); (conv => whnf); refine ⟨_, _, i_first (ih := by with_reducible assumption) (ha := ?_) (hw := ?_) (h9 := ?_) (hk := ?_) .., rfl, fun res B hRB => ?_⟩; rotate_right; obtain ⟨rfl, rfl⟩ := hRB; conv => whnf)
    | ((with_reducible refine zcI (g := 121) ?_); (conv => whnf); refine ⟨_, _, i_constIs .., rfl, fun res B hRB => ?_⟩; rotate_right; obtain ⟨rfl, rfl⟩ := hRB; conv => whnf)
    | ((with_reducible refine zcI (g := 105) ?_); (conv => whnf); refine ⟨_, _, i_ConstTerm (h := ?_) .., rfl, fun res B hRB => ?_⟩; rotate_right; obtain ⟨rfl, rfl⟩ := hRB; conv => whnf)
    | ((with_reducible refine zcI (g := 189) ?_); (conv => whnf); refine ⟨_, _, i_sameTerm .., rfl, fun res B hRB => ?_⟩; rotate_right; obtain ⟨rfl, rfl⟩ := hRB; conv => whnf)
    | ((with_reducible refine zcI (g := 188) ?_); (conv => whnf); refine ⟨_, _, i_ApplyBinary .., rfl, fun res B hRB => ?_⟩; rotate_right; obtain ⟨rfl, rfl⟩ := hRB; conv => whnf)
    | ((with_reducible show awpOps _ _ _ _ _ _); conv => whnf)
    | (intro h; conv => whnf))
  all_goals (repeat (clear hK; clear K1))
  all_goals first
    | exact True.intro
    | ((with_reducible show (_ : Int) ≤ _); omega)
    | ((with_reducible show (_ : Int) < _); first | exact lt_b0 ht (by omega) | exact lt_b1 ht (by omega) | exact lt_b0 (ok1 ht (by omega)) (by omega) | exact lt_b1 (ok1 ht (by omega)) (by omega) | omega)
    | ((with_reducible show inP _ _ _ = true); first | exact okT_w' ht | exact okT_w' (ok0 ht (by omega)))
    | ((with_reducible show F9 _ _ _); exact f9_of ht ho (by omega))
    | ((with_reducible show FK _ _ _ _ _); (try simp only [V.Term.eta, Int.toNat_zero, Int.toNat_one] at *); exact fk_of ht ho (by omega) (ns_10 (by with_reducible assumption)) (by with_reducible assumption))
    | ((with_reducible show wordP _ _ = true); (try simp only [V.Term.eta, Int.toNat_zero, Int.toNat_one] at *); first | exact zero_word (okT_w' ht) | decide | exact wd_1 ht ho (by omega) (by with_reducible assumption) (by with_reducible assumption) (by with_reducible assumption))
    | ((with_reducible show okT (oT _ _ _ _) = true); (try simp only [V.Term.eta, Int.toNat_zero, Int.toNat_one] at *); obtain ⟨y, hy⟩ : ∃ y, redB t = y := ⟨_, rfl⟩; have hz := hy; (first | rw [sw_10 ho (by with_reducible assumption)] at hz | ((first | rw [rb_no0 (ns_10 (by with_reducible assumption)) (by with_reducible assumption)] at hz | rw [n1_10 ho (ns_10 (by with_reducible assumption)) (by with_reducible assumption)] at hz); rw [r2_10 ho] at hz; (repeat (first | rw [if_pos (by with_reducible assumption)] at hz | rw [if_neg (by with_reducible assumption)] at hz | rw [if_pos ⟨by with_reducible assumption, by with_reducible assumption, by with_reducible assumption⟩] at hz | rw [if_neg (and_z1 (by with_reducible assumption))] at hz | rw [if_neg (and_z2 (by with_reducible assumption))] at hz | rw [if_neg (and_z3 (by with_reducible assumption))] at hz)))); rw [← hz] at hy; exact (lb_ok ht (by omega) hy).1)
    | ((with_reducible show meas _ < _); (try simp only [V.Term.eta, Int.toNat_zero, Int.toNat_one] at *); obtain ⟨y, hy⟩ : ∃ y, redB t = y := ⟨_, rfl⟩; have hz := hy; (first | rw [sw_10 ho (by with_reducible assumption)] at hz | ((first | rw [rb_no0 (ns_10 (by with_reducible assumption)) (by with_reducible assumption)] at hz | rw [n1_10 ho (ns_10 (by with_reducible assumption)) (by with_reducible assumption)] at hz); rw [r2_10 ho] at hz; (repeat (first | rw [if_pos (by with_reducible assumption)] at hz | rw [if_neg (by with_reducible assumption)] at hz | rw [if_pos ⟨by with_reducible assumption, by with_reducible assumption, by with_reducible assumption⟩] at hz | rw [if_neg (and_z1 (by with_reducible assumption))] at hz | rw [if_neg (and_z2 (by with_reducible assumption))] at hz | rw [if_neg (and_z3 (by with_reducible assumption))] at hz)))); rw [← hz] at hy; exact (lb_ok ht (by omega) hy).2)
    | ((show Nat.le (Nat.succ (meas (oT _ _ _ _))) _); (try simp only [V.Term.eta, Int.toNat_zero, Int.toNat_one] at *); obtain ⟨y, hy⟩ : ∃ y, redB t = y := ⟨_, rfl⟩; have hz := hy; (first | rw [sw_10 ho (by with_reducible assumption)] at hz | ((first | rw [rb_no0 (ns_10 (by with_reducible assumption)) (by with_reducible assumption)] at hz | rw [n1_10 ho (ns_10 (by with_reducible assumption)) (by with_reducible assumption)] at hz); rw [r2_10 ho] at hz; (repeat (first | rw [if_pos (by with_reducible assumption)] at hz | rw [if_neg (by with_reducible assumption)] at hz | rw [if_pos ⟨by with_reducible assumption, by with_reducible assumption, by with_reducible assumption⟩] at hz | rw [if_neg (and_z1 (by with_reducible assumption))] at hz | rw [if_neg (and_z2 (by with_reducible assumption))] at hz | rw [if_neg (and_z3 (by with_reducible assumption))] at hz)))); rw [← hz] at hy; exact (lb_ok ht (by omega) hy).2)
    | ((with_reducible show Fr _); (try simp only [V.Term.eta, Int.toNat_zero, Int.toNat_one] at *); first
        | exact ⟨fr5 ((fi_of ht ho (by omega) hc (ns_10 (by with_reducible assumption)) (by with_reducible assumption) (by with_reducible assumption)).trans (V.Term.eta _).symm)⟩
        | (obtain ⟨y, hy⟩ : ∃ y, redB t = y := ⟨_, rfl⟩; have hz := hy; (first | rw [sw_10 ho (by with_reducible assumption)] at hz | ((first | rw [rb_no0 (ns_10 (by with_reducible assumption)) (by with_reducible assumption)] at hz | rw [n1_10 ho (ns_10 (by with_reducible assumption)) (by with_reducible assumption)] at hz); rw [r2_10 ho] at hz; (repeat (first | rw [if_pos (by with_reducible assumption)] at hz | rw [if_neg (by with_reducible assumption)] at hz | rw [if_pos ⟨by with_reducible assumption, by with_reducible assumption, by with_reducible assumption⟩] at hz | rw [if_neg (and_z1 (by with_reducible assumption))] at hz | rw [if_neg (and_z2 (by with_reducible assumption))] at hz | rw [if_neg (and_z3 (by with_reducible assumption))] at hz)))); rw [← hz] at hy; first
            | exact ⟨fr5 ((lb_f ht (by omega) hc hy).trans (V.Term.eta _).symm)⟩
            | exact ⟨fr5 ((lb_f ht (by omega) hc hy).trans (te_of ho))⟩
            | exact ⟨fr5 (lb_f ht (by omega) hc hy)⟩
            | exact ⟨fr5 ((lb_t ht (by omega) hc hy).trans (V.Term.eta _).symm)⟩))
    | skip
end Vg
