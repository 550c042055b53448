/- The law of NewPool. No condition. -/
import Derived.Test.YtahdmongckgjcaaGreatDoorPoolN
import Derived.Test.YtahdmongckgjcaaGreatDoorPoolL
namespace Vg
open Go Go.Proofs
set_option maxRecDepth 100000 in
theorem g_markPool0 (f k : Int) : CallsV Tryz.prog 17 [.agg [.dat (.i f), .dat (.seq .intss []), .dat (.seq .intss []), .dat (.seq .bools []), .dat (.seq .intss [])], .dat (.i k)] (.dat (.i k)) := by
  refine CallsV.of_awp tauOk mixOk Tryz.func17 rfl rfl rfl ?_
  conv => whnf
  repeat' (first
    | ((with_reducible refine fun (K1 : AX → AState → Prop) hK => ?_); (with_reducible refine awp_rg ?_ ?_); exact rfl; conv => whnf)
    | ((with_reducible refine fun (K1 : AX → AState → Prop) hK => ?_); conv => whnf)
    | ((with_reducible show K1 _ _); subst hK; conv => whnf)
    | (with_reducible exact rfl)
    | (refine ⟨(rfl : nodupB _ = true), rfl, ?_⟩; conv => whnf)
    | ((with_reducible refine pcI (g := 44) ?_); refine ⟨_, g_markJobS0 .., rfl, ?_⟩; rotate_right; conv => whnf)
    | ((with_reducible show Exists _); refine Exists.intro _ (And.intro (g_markJobS0 ..) (And.intro rfl ?_)); rotate_right; conv => whnf)
    | ((with_reducible refine pcI (g := 45) ?_); refine ⟨_, g_markBoolS0 .., rfl, ?_⟩; rotate_right; conv => whnf)
    | ((with_reducible show Exists _); refine Exists.intro _ (And.intro (g_markBoolS0 ..) (And.intro rfl ?_)); rotate_right; conv => whnf)
    | ((with_reducible show awpOps _ _ _ _ _ _); conv => whnf)
    | (intro h; conv => whnf))
  all_goals (repeat (clear hK; clear K1))
  all_goals first | rfl | skip
set_option maxRecDepth 100000 in
theorem l_heldJobS0 (k : Int) : CallsV Tryz.prog 46 [.dat (.seq .intss []), .dat (.i k)] (.dat (.i k)) := by
  refine CallsV.of_awp tauOk mixOk Tryz.func46 rfl rfl rfl ?_
  conv => whnf
  repeat' (first
    | ((with_reducible refine fun (K1 : AX → AState → Prop) hK => ?_); (with_reducible refine awp_rg ?_ ?_); exact rfl; conv => whnf)
    | ((with_reducible refine fun (K1 : AX → AState → Prop) hK => ?_); conv => whnf)
    | ((with_reducible show K1 _ _); subst hK; conv => whnf)
    | (with_reducible exact rfl)
    | ((with_reducible refine sp_dF ?_ ?_); decide; conv => whnf)
    | (refine ⟨(rfl : nodupB _ = true), rfl, ?_⟩; conv => whnf)
    | (refine Exists.intro (Unit) (Exists.intro (fun _ => mkS Tryz.f46.ntmps [(0, .dat (.seq .intss [])), (1, .dat (.i k)), (5, .dat (.i 0))] []) (Exists.intro (fun _ => 0) (Exists.intro () (And.intro (SubP.sub (σ := []) ⟨⟨rfl, rfl, rfl⟩, ⟨(wk_dat ?_), (wk_dat ?_), (wk_dat ?_), trivial⟩, trivial⟩) (fun _ => ?_))))); rotate_right; conv => whnf)
    | (refine Exists.intro () (And.intro ?_ (SubP.sub (σ := []) ⟨⟨rfl, rfl, rfl⟩, ⟨(wk_dat ?_), (wk_dat ?_), (wk_dat ?_), trivial⟩, trivial⟩)))
    | ((with_reducible show awpOps _ _ _ _ _ _); conv => whnf)
    | (intro h; conv => whnf))
  all_goals (repeat (clear hK; clear K1))
  all_goals first
    | rfl
    | assumption
    | exact Bool.noConfusion (h.symm.trans hp)
    | omega
    | (dsimp only; omega)
set_option maxRecDepth 100000 in
theorem l_heldBoolS0 (k : Int) : CallsV Tryz.prog 47 [.dat (.seq .bools []), .dat (.i k)] (.dat (.i k)) := by
  refine CallsV.of_awp tauOk mixOk Tryz.func47 rfl rfl rfl ?_
  conv => whnf
  repeat' (first
    | ((with_reducible refine fun (K1 : AX → AState → Prop) hK => ?_); (with_reducible refine awp_rg ?_ ?_); exact rfl; conv => whnf)
    | ((with_reducible refine fun (K1 : AX → AState → Prop) hK => ?_); conv => whnf)
    | ((with_reducible show K1 _ _); subst hK; conv => whnf)
    | (with_reducible exact rfl)
    | ((with_reducible refine sp_dF ?_ ?_); decide; conv => whnf)
    | (refine ⟨(rfl : nodupB _ = true), rfl, ?_⟩; conv => whnf)
    | (refine Exists.intro (Unit) (Exists.intro (fun _ => mkS Tryz.f47.ntmps [(0, .dat (.seq .bools [])), (1, .dat (.i k)), (5, .dat (.i 0))] []) (Exists.intro (fun _ => 0) (Exists.intro () (And.intro (SubP.sub (σ := []) ⟨⟨rfl, rfl, rfl⟩, ⟨(wk_dat ?_), (wk_dat ?_), (wk_dat ?_), trivial⟩, trivial⟩) (fun _ => ?_))))); rotate_right; conv => whnf)
    | (refine Exists.intro () (And.intro ?_ (SubP.sub (σ := []) ⟨⟨rfl, rfl, rfl⟩, ⟨(wk_dat ?_), (wk_dat ?_), (wk_dat ?_), trivial⟩, trivial⟩)))
    | ((with_reducible show awpOps _ _ _ _ _ _); conv => whnf)
    | (intro h; conv => whnf))
  all_goals (repeat (clear hK; clear K1))
  all_goals first
    | rfl
    | assumption
    | exact Bool.noConfusion (h.symm.trans hp)
    | omega
    | (dsimp only; omega)
set_option maxRecDepth 100000 in
theorem l_heldPool0 (f k : Int) (hk : 0 ≤ k) : CallsV Tryz.prog 18 [.agg [.dat (.i f), .dat (.seq .intss []), .dat (.seq .intss []), .dat (.seq .bools []), .dat (.seq .intss [])], .dat (.i k)] (.dat (.i k)) := by
  refine CallsV.of_awp tauOk mixOk Tryz.func18 rfl rfl rfl ?_
  conv => whnf
  repeat' (first
    | ((with_reducible refine fun (K1 : AX → AState → Prop) hK => ?_); (with_reducible refine awp_rg ?_ ?_); exact rfl; conv => whnf)
    | ((with_reducible refine fun (K1 : AX → AState → Prop) hK => ?_); conv => whnf)
    | ((with_reducible show K1 _ _); subst hK; conv => whnf)
    | (with_reducible exact rfl)
    | ((with_reducible refine sp_d (fun h => ?_) (fun h => ?_)) <;> first | contradiction | (subst h; conv => whnf) | (conv => whnf))
    | (refine ⟨(rfl : nodupB _ = true), rfl, ?_⟩; conv => whnf)
    | ((with_reducible refine pcI (g := 46) ?_); refine ⟨_, l_heldJobS0 .., rfl, ?_⟩; rotate_right; conv => whnf)
    | ((with_reducible show Exists _); refine Exists.intro _ (And.intro (l_heldJobS0 ..) (And.intro rfl ?_)); rotate_right; conv => whnf)
    | ((with_reducible refine pcI (g := 47) ?_); refine ⟨_, l_heldBoolS0 .., rfl, ?_⟩; rotate_right; conv => whnf)
    | ((with_reducible show Exists _); refine Exists.intro _ (And.intro (l_heldBoolS0 ..) (And.intro rfl ?_)); rotate_right; conv => whnf)
    | ((with_reducible show awpOps _ _ _ _ _ _); conv => whnf)
    | (intro h; conv => whnf))
  all_goals (repeat (clear hK; clear K1))
  all_goals first | rfl | omega | (exfalso; omega) | skip
set_option maxRecDepth 100000 in
theorem g_markPool (f k : Int) (o e : List (List Int)) (b : List Bool) (h0 : 0 ≤ k) (h1 : k ≤ 1048576) (ho : totSS o ≤ 1048576) (he : totSS e ≤ 1048576) (hb : b.length ≤ 1048576) : CallsG Tryz.prog 17 [.agg [.dat (.i f), .row 0, .row 1, .row 2, .nils], .dat (.i k)] [.tree 61 .intss o, .tree 61 .intss e, .row 4 .bools b false] 3 (fun res B => res = .dat (.i (k + (lenTo o o.length : Nat) + (lenTo e e.length : Nat) + b.length)) ∧ B = [.tree 61 .intss (mkII k o o.length), .tree 61 .intss (mkII (k + (lenTo o o.length : Nat)) e e.length), .row 4 .bools (mkB (k + (lenTo o o.length : Nat) + (lenTo e e.length : Nat)) b.length) false]) := by
  refine CallsG.of_awp tauOk mixOk Tryz.func17 rfl rfl rfl ?_
  conv => whnf
  repeat' (first
    | ((with_reducible refine fun (K1 : AX → AState → Prop) hK => ?_); (with_reducible refine awp_rg ?_ ?_); exact rfl; conv => whnf)
    | ((with_reducible refine fun (K1 : AX → AState → Prop) hK => ?_); conv => whnf)
    | ((with_reducible show K1 _ _); subst hK; conv => whnf)
    | (with_reducible exact rfl)
    | (refine ⟨(rfl : nodupB _ = true), rfl, ?_⟩; conv => whnf)
    | ((with_reducible refine and_of ?_ ?_); conv => whnf)
    | ((with_reducible refine gcI (g := 44) ?_); refine ⟨_, _, g_markJobS (h0 := ?_) (h1 := ?_) (hl := ?_) .., fun res B hRB => ?_⟩; rotate_right; obtain ⟨rfl, rfl⟩ := hRB; conv => whnf)
    | ((with_reducible refine pcI (g := 44) ?_); refine ⟨_, g_markJobS0 .., rfl, ?_⟩; rotate_right; conv => whnf)
    | ((with_reducible show Exists _); refine Exists.intro _ (And.intro (g_markJobS0 ..) (And.intro rfl ?_)); rotate_right; conv => whnf)
    | ((with_reducible refine gcI (g := 45) ?_); refine ⟨_, _, g_markBoolS (h0 := ?_) (h1 := ?_) (hl := ?_) .., fun res B hRB => ?_⟩; rotate_right; obtain ⟨rfl, rfl⟩ := hRB; conv => whnf)
    | ((with_reducible show awpOps _ _ _ _ _ _); conv => whnf)
    | (intro h; conv => whnf))
  all_goals (repeat (clear hK; clear K1))
  all_goals (have q1 := lenTo_le o o.length; have q2 := lenTo_le e e.length)
  all_goals first | exact ⟨rfl, rfl⟩ | rfl | omega | skip
set_option maxRecDepth 100000 in
theorem l_heldPool (f k : Int) (o e : List (List Int)) (b : List Bool) (h0 : 0 ≤ k) (h1 : k ≤ 1048576) (ho : totSS o ≤ 1048576) (he : totSS e ≤ 1048576) (hb : b.length ≤ 1048576) : CallsV Tryz.prog 18 [.agg [.dat (.i f), .dat (.seq .intss (mkII k o o.length)), .dat (.seq .intss (mkII (k + (lenTo o o.length : Nat)) e e.length)), .dat (.seq .bools (mkB (k + (lenTo o o.length : Nat) + (lenTo e e.length : Nat)) b.length)), .dat (.seq .intss [])], .dat (.i k)] (.dat (.i (k + (lenTo o o.length : Nat) + (lenTo e e.length : Nat) + b.length))) := by
  refine CallsV.of_awp tauOk mixOk Tryz.func18 rfl rfl rfl ?_
  conv => whnf
  repeat' (first
    | ((with_reducible refine fun (K1 : AX → AState → Prop) hK => ?_); (with_reducible refine awp_rg ?_ ?_); exact rfl; conv => whnf)
    | ((with_reducible refine fun (K1 : AX → AState → Prop) hK => ?_); conv => whnf)
    | ((with_reducible show K1 _ _); subst hK; conv => whnf)
    | (with_reducible exact rfl)
    | ((with_reducible refine sp_d (fun h => ?_) (fun h => ?_)) <;> first | contradiction | (subst h; conv => whnf) | (conv => whnf))
    | (refine ⟨(rfl : nodupB _ = true), rfl, ?_⟩; conv => whnf)
    | ((with_reducible refine pcI (g := 46) ?_); refine ⟨_, l_heldJobS (h0 := ?_) (h1 := ?_) (hl := ?_) .., rfl, ?_⟩; rotate_right; conv => whnf)
    | ((with_reducible show Exists _); refine Exists.intro _ (And.intro (l_heldJobS (h0 := ?_) (h1 := ?_) (hl := ?_) ..) (And.intro rfl ?_)); rotate_right; conv => whnf)
    | ((with_reducible refine pcI (g := 46) ?_); refine ⟨_, l_heldJobS0 .., rfl, ?_⟩; rotate_right; conv => whnf)
    | ((with_reducible show Exists _); refine Exists.intro _ (And.intro (l_heldJobS0 ..) (And.intro rfl ?_)); rotate_right; conv => whnf)
    | ((with_reducible refine pcI (g := 47) ?_); refine ⟨_, l_heldBoolS (h0 := ?_) (h1 := ?_) (hl := ?_) .., rfl, ?_⟩; rotate_right; conv => whnf)
    | ((with_reducible show Exists _); refine Exists.intro _ (And.intro (l_heldBoolS (h0 := ?_) (h1 := ?_) (hl := ?_) ..) (And.intro rfl ?_)); rotate_right; conv => whnf)
    | ((with_reducible show awpOps _ _ _ _ _ _); conv => whnf)
    | (intro h; conv => whnf))
  all_goals (repeat (clear hK; clear K1))
  all_goals (have q1 := lenTo_le o o.length; have q2 := lenTo_le e e.length)
  all_goals first | rfl | omega | (exfalso; omega) | skip
set_option maxRecDepth 100000 in
theorem ln_toProgram (w mem inn : Int) (a : List V.Ins) (hl : a.length ≤ 1048576) : CallsF Tryz.prog 12 [.agg [.dat (.i w), .dat (.i mem), .dat (.i inn), .dat (.seq .inss a)]] true (fun res B => res = .agg [.dat (.i w), .dat (.i mem), .dat (.i inn), .row 0] ∧ B = [.row 91 .inss a false]) := by
  refine CallsF.of_awp tauOk mixOk Tryz.func12 rfl rfl rfl ?_
  conv => whnf
  repeat' (first
    | ((with_reducible refine fun (K1 : AX → AState → Prop) hK => ?_); (with_reducible refine awp_rg ?_ ?_); exact rfl; conv => whnf)
    | ((with_reducible refine fun (K1 : AX → AState → Prop) hK => ?_); conv => whnf)
    | ((with_reducible show K1 _ _); subst hK; conv => whnf)
    | (with_reducible exact rfl)
    | (refine ⟨(rfl : nodupB _ = true), rfl, ?_⟩; conv => whnf)
    | ((with_reducible refine and_of ?_ ?_); conv => whnf)
    | ((with_reducible refine fcI (g := 39) ?_); refine ⟨_, _, lf_toInsS (hl := ?_) .., rfl, fun res B hRB => ?_⟩; rotate_right; obtain ⟨rfl, rfl⟩ := hRB; conv => whnf)
    | ((with_reducible show awpOps _ _ _ _ _ _); conv => whnf)
    | (intro h; conv => whnf))
  all_goals (repeat (clear hK; clear K1))
  all_goals first
      | rfl
      | assumption
      | exact Bool.noConfusion (h.symm.trans hp)
      | (simp_all []; done)
      | grind []
      | (simp_all []; omega)
theorem szc {n : Nat} (h : ¬ (if (1048576 : Int) - n < 0 then (-1 : Int) else 1048576 - n) < 0) : n ≤ 1048576 := by
  split at h
  · exact absurd (by decide) h
  · omega
theorem tot_rep {n : Int} (h : 1 ≤ n ∧ n ≤ 4) : totSS (List.replicate n.toNat ([] : List Int)) ≤ 1048576 := by
  unfold totSS
  simp
  omega
set_option maxHeartbeats 4000000 in
set_option maxRecDepth 100000 in
theorem law_NPy (w mem inn : Int) (c : List V.Ins) (n f : Int) (hn : newP ⟨w, mem, inn, c⟩ n f = true) : CallsV Tryz.prog 3 [.agg [.dat (.i w), .dat (.i mem), .dat (.i inn), .dat (.seq .inss c)], .dat (.i n), .dat (.i f)] (.dat (.bool true)) := by
  refine CallsV.of_awp tauOk mixOk Tryz.func3 rfl rfl rfl ?_
  conv => whnf
  repeat' (first
    | ((with_reducible refine fun (K1 : AX → AState → Prop) hK => ?_); (with_reducible refine awp_rg ?_ ?_); exact rfl; conv => whnf)
    | ((with_reducible refine Alt.l ?_); conv => whnf)
    | ((with_reducible refine fun (K1 : AX → AState → Prop) hK => ?_); conv => whnf)
    | ((with_reducible show K1 _ _); subst hK; conv => whnf)
    | (with_reducible exact rfl)
    | ((with_reducible refine sp_T ?_); conv => whnf)
    | ((with_reducible refine sp_T' ?_); conv => whnf)
    | ((with_reducible refine sp_F' ?_); conv => whnf)
    | ((with_reducible refine sp_d (fun h => ?_) (fun h => ?_)) <;> first | contradiction | (subst h; conv => whnf) | (conv => whnf))
    | ((with_reducible refine sp_d' (fun h => ?_) (fun h => ?_)) <;> first | contradiction | (subst h; conv => whnf) | (conv => whnf))
    | ((with_reducible refine sp_n (fun h => ?_) (fun h => ?_)) <;> first | contradiction | (subst h; conv => whnf) | (conv => whnf))
    | ((with_reducible refine sp_nb (fun h => ?_) (fun h => ?_)) <;> first | (exact Bool.noConfusion (Eq.trans (Eq.symm h) (show _ = true by with_reducible assumption))) | (exact Bool.noConfusion (Eq.trans (Eq.symm (show _ = false by with_reducible assumption)) h)) | (conv => whnf))
    | ((with_reducible refine sp_nb' (fun h => ?_) (fun h => ?_)) <;> first | (exact Bool.noConfusion (Eq.trans (Eq.symm h) (show _ = true by with_reducible assumption))) | (exact Bool.noConfusion (Eq.trans (Eq.symm (show _ = false by with_reducible assumption)) h)) | (conv => whnf))
    | (refine ⟨(rfl : nodupB _ = true), rfl, ?_⟩; conv => whnf)
    | ((with_reducible refine pcI (g := 10) ?_); refine ⟨_, l_szProgram (h0 := ?_) (h1 := ?_) .., rfl, ?_⟩; rotate_right; conv => whnf)
    | ((with_reducible show Exists _); refine Exists.intro _ (And.intro (l_szProgram (h0 := ?_) (h1 := ?_) ..) (And.intro rfl ?_)); rotate_right; conv => whnf)
    | ((with_reducible refine pcI (g := 11) ?_); refine ⟨_, s_NewPoolY (hn := by assumption) .., rfl, ?_⟩; rotate_right; conv => whnf)
    | ((with_reducible show Exists _); refine Exists.intro _ (And.intro (s_NewPoolY (hn := by assumption) ..) (And.intro rfl ?_)); rotate_right; conv => whnf)
    | ((with_reducible show Exists _); refine Exists.intro _ (And.intro (l_toProgram (hl := ?_) ..) (And.intro rfl ?_)); rotate_right; conv => whnf)
    | ((with_reducible refine fcI (g := 12) ?_); refine ⟨_, _, ln_toProgram (hl := ?_) .., rfl, fun res B hRB => ?_⟩; rotate_right; obtain ⟨rfl, rfl⟩ := hRB; conv => whnf)
    | ((with_reducible refine fcI (g := 13) ?_); refine ⟨_, _, i_NewPoolY (hn := by assumption) .., rfl, fun res B hRB => ?_⟩; rotate_right; obtain ⟨rfl, rfl⟩ := hRB; conv => whnf)
    | ((with_reducible refine pcI (g := 14) ?_); refine ⟨_, l_eqPool .., rfl, ?_⟩; rotate_right; conv => whnf)
    | ((with_reducible show Exists _); refine Exists.intro _ (And.intro (l_eqPool ..) (And.intro rfl ?_)); rotate_right; conv => whnf)
    | ((with_reducible refine pcI (g := 15) ?_); refine ⟨_, l_eqProgram .., rfl, ?_⟩; rotate_right; conv => whnf)
    | ((with_reducible show Exists _); refine Exists.intro _ (And.intro (l_eqProgram ..) (And.intro rfl ?_)); rotate_right; conv => whnf)
    | ((with_reducible refine gcI (g := 16) ?_); refine ⟨_, _, g_markProgram (h0 := ?_) (h1 := ?_) (hl := ?_) .., fun res B hRB => ?_⟩; rotate_right; obtain ⟨rfl, rfl⟩ := hRB; conv => whnf)
    | ((with_reducible refine gcI (g := 17) ?_); refine ⟨_, _, g_markPool (h0 := ?_) (h1 := ?_) (ho := ?_) (he := ?_) (hb := ?_) .., fun res B hRB => ?_⟩; rotate_right; obtain ⟨rfl, rfl⟩ := hRB; conv => whnf)
    | ((with_reducible refine pcI (g := 18) ?_); refine ⟨_, l_heldPool (h0 := ?_) (h1 := ?_) (ho := ?_) (he := ?_) (hb := ?_) .., rfl, ?_⟩; rotate_right; conv => whnf)
    | ((with_reducible show Exists _); refine Exists.intro _ (And.intro (l_heldPool (h0 := ?_) (h1 := ?_) (ho := ?_) (he := ?_) (hb := ?_) ..) (And.intro rfl ?_)); rotate_right; conv => whnf)
    | ((with_reducible refine zcI (g := 10) ?_); (conv => whnf); refine ⟨_, _, l_szProgram (h0 := ?_) (h1 := ?_) .., rfl, fun res B hRB => ?_⟩; rotate_right; obtain ⟨rfl, rfl⟩ := hRB; conv => whnf)
    | ((with_reducible refine zcI (g := 11) ?_); (conv => whnf); refine ⟨_, _, s_NewPoolY (hn := by with_reducible assumption) .., rfl, fun res B hRB => ?_⟩; rotate_right; obtain ⟨rfl, rfl⟩ := hRB; conv => whnf)
    | ((with_reducible refine zcI (g := 12) ?_); (conv => whnf); refine ⟨_, _, ln_toProgram (hl := ?_) .., rfl, fun res B hRB => ?_⟩; rotate_right; obtain ⟨rfl, rfl⟩ := hRB; conv => whnf)
    | ((with_reducible refine zcI (g := 13) ?_); (conv => whnf); refine ⟨_, _, i_NewPoolY (hn := by with_reducible assumption) .., rfl, fun res B hRB => ?_⟩; rotate_right; obtain ⟨rfl, rfl⟩ := hRB; conv => whnf)
    | ((with_reducible refine zcI (g := 14) ?_); (conv => whnf); refine ⟨_, _, l_eqPool .., rfl, fun res B hRB => ?_⟩; rotate_right; obtain ⟨rfl, rfl⟩ := hRB; conv => whnf)
    | ((with_reducible refine zcI (g := 15) ?_); (conv => whnf); refine ⟨_, _, l_eqProgram .., rfl, fun res B hRB => ?_⟩; rotate_right; obtain ⟨rfl, rfl⟩ := hRB; conv => whnf)
    | ((with_reducible refine zcI (g := 18) ?_); (conv => whnf); refine ⟨_, _, l_heldPool (h0 := ?_) (h1 := ?_) (ho := ?_) (he := ?_) (hb := ?_) .., rfl, fun res B hRB => ?_⟩; rotate_right; obtain ⟨rfl, rfl⟩ := hRB; conv => whnf)
    | ((with_reducible show awpOps _ _ _ _ _ _); conv => whnf)
    | (intro h; conv => whnf))
  all_goals (repeat (clear hK; clear K1))
  all_goals (have hn2 := (newP_iff.1 hn).2.1)
  all_goals first
    | rfl
    | decide
    | (with_reducible exact szc (by with_reducible assumption))
    | (have q := szc (by with_reducible assumption); omega)
    | (with_reducible exact tot_rep hn2)
    | (rw [List.length_replicate]; omega)
    | (with_reducible exact absurd rfl (by with_reducible assumption))
    | (exact absurd h (by simp))
    | skip
set_option maxHeartbeats 4000000 in
set_option maxRecDepth 100000 in
theorem law_NPn (w mem inn : Int) (c : List V.Ins) (n f : Int) (hn : newP ⟨w, mem, inn, c⟩ n f = false) : CallsV Tryz.prog 3 [.agg [.dat (.i w), .dat (.i mem), .dat (.i inn), .dat (.seq .inss c)], .dat (.i n), .dat (.i f)] (.dat (.bool true)) := by
  refine CallsV.of_awp tauOk mixOk Tryz.func3 rfl rfl rfl ?_
  conv => whnf
  repeat' (first
    | ((with_reducible refine fun (K1 : AX → AState → Prop) hK => ?_); (with_reducible refine awp_rg ?_ ?_); exact rfl; conv => whnf)
    | ((with_reducible refine Alt.l ?_); conv => whnf)
    | ((with_reducible refine fun (K1 : AX → AState → Prop) hK => ?_); conv => whnf)
    | ((with_reducible show K1 _ _); subst hK; conv => whnf)
    | (with_reducible exact rfl)
    | ((with_reducible refine sp_T ?_); conv => whnf)
    | ((with_reducible refine sp_T' ?_); conv => whnf)
    | ((with_reducible refine sp_F' ?_); conv => whnf)
    | ((with_reducible refine sp_dF ?_ ?_); decide; conv => whnf)
    | ((with_reducible refine sp_d (fun h => ?_) (fun h => ?_)) <;> first | contradiction | (subst h; conv => whnf) | (conv => whnf))
    | ((with_reducible refine sp_d' (fun h => ?_) (fun h => ?_)) <;> first | contradiction | (subst h; conv => whnf) | (conv => whnf))
    | ((with_reducible refine sp_n (fun h => ?_) (fun h => ?_)) <;> first | contradiction | (subst h; conv => whnf) | (conv => whnf))
    | ((with_reducible refine sp_nb (fun h => ?_) (fun h => ?_)) <;> first | (exact Bool.noConfusion (Eq.trans (Eq.symm h) (show _ = true by with_reducible assumption))) | (exact Bool.noConfusion (Eq.trans (Eq.symm (show _ = false by with_reducible assumption)) h)) | (conv => whnf))
    | ((with_reducible refine sp_nb' (fun h => ?_) (fun h => ?_)) <;> first | (exact Bool.noConfusion (Eq.trans (Eq.symm h) (show _ = true by with_reducible assumption))) | (exact Bool.noConfusion (Eq.trans (Eq.symm (show _ = false by with_reducible assumption)) h)) | (conv => whnf))
    | (refine ⟨(rfl : nodupB _ = true), rfl, ?_⟩; conv => whnf)
    | ((with_reducible refine pcI (g := 10) ?_); refine ⟨_, l_szProgram (h0 := ?_) (h1 := ?_) .., rfl, ?_⟩; rotate_right; conv => whnf)
    | ((with_reducible show Exists _); refine Exists.intro _ (And.intro (l_szProgram (h0 := ?_) (h1 := ?_) ..) (And.intro rfl ?_)); rotate_right; conv => whnf)
    | ((with_reducible refine pcI (g := 11) ?_); refine ⟨_, s_NewPoolN (hn := by assumption) .., rfl, ?_⟩; rotate_right; conv => whnf)
    | ((with_reducible show Exists _); refine Exists.intro _ (And.intro (s_NewPoolN (hn := by assumption) ..) (And.intro rfl ?_)); rotate_right; conv => whnf)
    | ((with_reducible show Exists _); refine Exists.intro _ (And.intro (l_toProgram (hl := ?_) ..) (And.intro rfl ?_)); rotate_right; conv => whnf)
    | ((with_reducible refine fcI (g := 12) ?_); refine ⟨_, _, ln_toProgram (hl := ?_) .., rfl, fun res B hRB => ?_⟩; rotate_right; obtain ⟨rfl, rfl⟩ := hRB; conv => whnf)
    | ((with_reducible refine fcI (g := 13) ?_); refine ⟨_, _, i_NewPoolN (hn := by assumption) .., rfl, fun res B hRB => ?_⟩; rotate_right; obtain ⟨rfl, rfl⟩ := hRB; conv => whnf)
    | ((with_reducible refine pcI (g := 14) ?_); refine ⟨_, l_eqPool .., rfl, ?_⟩; rotate_right; conv => whnf)
    | ((with_reducible show Exists _); refine Exists.intro _ (And.intro (l_eqPool ..) (And.intro rfl ?_)); rotate_right; conv => whnf)
    | ((with_reducible refine pcI (g := 15) ?_); refine ⟨_, l_eqProgram .., rfl, ?_⟩; rotate_right; conv => whnf)
    | ((with_reducible show Exists _); refine Exists.intro _ (And.intro (l_eqProgram ..) (And.intro rfl ?_)); rotate_right; conv => whnf)
    | ((with_reducible refine gcI (g := 16) ?_); refine ⟨_, _, g_markProgram (h0 := ?_) (h1 := ?_) (hl := ?_) .., fun res B hRB => ?_⟩; rotate_right; obtain ⟨rfl, rfl⟩ := hRB; conv => whnf)
    | ((with_reducible refine pcI (g := 17) ?_); refine ⟨_, g_markPool0 .., rfl, ?_⟩; rotate_right; conv => whnf)
    | ((with_reducible show Exists _); refine Exists.intro _ (And.intro (g_markPool0 ..) (And.intro rfl ?_)); rotate_right; conv => whnf)
    | ((with_reducible refine pcI (g := 18) ?_); refine ⟨_, l_heldPool0 (hk := ?_) .., rfl, ?_⟩; rotate_right; conv => whnf)
    | ((with_reducible show Exists _); refine Exists.intro _ (And.intro (l_heldPool0 (hk := ?_) ..) (And.intro rfl ?_)); rotate_right; conv => whnf)
    | ((with_reducible refine zcI (g := 10) ?_); (conv => whnf); refine ⟨_, _, l_szProgram (h0 := ?_) (h1 := ?_) .., rfl, fun res B hRB => ?_⟩; rotate_right; obtain ⟨rfl, rfl⟩ := hRB; conv => whnf)
    | ((with_reducible refine zcI (g := 11) ?_); (conv => whnf); refine ⟨_, _, s_NewPoolN (hn := by with_reducible assumption) .., rfl, fun res B hRB => ?_⟩; rotate_right; obtain ⟨rfl, rfl⟩ := hRB; conv => whnf)
    | ((with_reducible refine zcI (g := 12) ?_); (conv => whnf); refine ⟨_, _, ln_toProgram (hl := ?_) .., rfl, fun res B hRB => ?_⟩; rotate_right; obtain ⟨rfl, rfl⟩ := hRB; conv => whnf)
    | ((with_reducible refine zcI (g := 13) ?_); (conv => whnf); refine ⟨_, _, i_NewPoolN (hn := by with_reducible assumption) .., rfl, fun res B hRB => ?_⟩; rotate_right; obtain ⟨rfl, rfl⟩ := hRB; conv => whnf)
    | ((with_reducible refine zcI (g := 14) ?_); (conv => whnf); refine ⟨_, _, l_eqPool .., rfl, fun res B hRB => ?_⟩; rotate_right; obtain ⟨rfl, rfl⟩ := hRB; conv => whnf)
    | ((with_reducible refine zcI (g := 15) ?_); (conv => whnf); refine ⟨_, _, l_eqProgram .., rfl, fun res B hRB => ?_⟩; rotate_right; obtain ⟨rfl, rfl⟩ := hRB; conv => whnf)
    | ((with_reducible refine zcI (g := 17) ?_); (conv => whnf); refine ⟨_, _, g_markPool0 .., rfl, fun res B hRB => ?_⟩; rotate_right; obtain ⟨rfl, rfl⟩ := hRB; conv => whnf)
    | ((with_reducible refine zcI (g := 18) ?_); (conv => whnf); refine ⟨_, _, l_heldPool0 (hk := ?_) .., rfl, fun res B hRB => ?_⟩; rotate_right; obtain ⟨rfl, rfl⟩ := hRB; conv => whnf)
    | ((with_reducible show awpOps _ _ _ _ _ _); conv => whnf)
    | (intro h; conv => whnf))
  all_goals (repeat (clear hK; clear K1))
  all_goals first
    | rfl
    | decide
    | (with_reducible exact szc (by with_reducible assumption))
    | (have q := szc (by with_reducible assumption); omega)
    | (with_reducible exact absurd rfl (by with_reducible assumption))
    | (exact absurd h (by simp))
    | (exfalso; omega)
    | skip
theorem law_NP (w mem inn : Int) (c : List V.Ins) (n f : Int) : CallsV Tryz.prog 3 [.agg [.dat (.i w), .dat (.i mem), .dat (.i inn), .dat (.seq .inss c)], .dat (.i n), .dat (.i f)] (.dat (.bool true)) := by
  cases hn : newP ⟨w, mem, inn, c⟩ n f with
  | true => exact law_NPy w mem inn c n f hn
  | false => exact law_NPn w mem inn c n f hn
end Vg
