/- Pools: contracts of NewPool, the program's and the reference's. No condition. -/
import Derived.Test.YtahdmongckgjcaaGreatDoorPoolI
namespace Vg
open Go Go.Proofs
def newP (p : V.Prog) (n f : Int) : Bool := progP p && inP n 1 4 && inP f 0 400
theorem newP_iff {p : V.Prog} {n f : Int} : newP p n f = true ↔ progP p = true ∧ (1 ≤ n ∧ n ≤ 4) ∧ inP f 0 400 = true := by
  unfold newP
  rw [Bool.and_eq_true, Bool.and_eq_true, inP_iff, and_assoc]
theorem rep_at (n k : Nat) : (List.replicate n false).getD k K.bools.dflt = false := by
  rw [List.getD_eq_getElem?_getD, List.getElem?_replicate]
  split <;> rfl
theorem rep_at2 (n k : Nat) : ((List.replicate n ([] : List Int)).getD k K.intss.dflt) = [] := by
  rw [List.getD_eq_getElem?_getD, List.getElem?_replicate]
  split <;> rfl
theorem busy_rep (e : List (List Int)) (n : Nat) : ∀ k, busyTo e (List.replicate n false) k = []
  | 0 => rfl
  | k + 1 => by rw [busyTo, busy_rep e n k, rep_at, if_neg (by decide)]; rfl
theorem idle_rep (n : Nat) (b : List Bool) : ∀ k, idleTo (List.replicate n []) b k = true
  | 0 => rfl
  | k + 1 => by rw [idleTo, idle_rep n b k, rep_at2]; simp
theorem pw_nil (p : V.Prog) : ∀ (f : Nat) (s : V.Path), (pwF p [] f s 0).2 = 0
  | 0, _ => rfl
  | f + 1, s => by
    have h := step_len p s
    rw [pwF]
    by_cases c : (stepP p s).length = 0 ∨ ((stepP p s).length = 2 ∧ 0 = ([] : List Int).length)
    · rw [if_pos c]
    rw [if_neg c]
    by_cases c2 : (stepP p s).length = 1
    · rw [if_pos c2]; exact pw_nil p f _
    · exact absurd (by
        simp only [List.length_nil, and_true] at c
        omega) c2
theorem new_all (n : Nat) : allJ [[]] (List.replicate n []) (List.replicate n false) [] = [[]] := by
  unfold allJ
  rw [busy_rep]; rfl
theorem new_pool {p : V.Prog} {n f : Int} (h : newP p n f = true) : poolP p f [[]] (List.replicate n.toNat []) (List.replicate n.toNat false) [] = true := by
  rw [newP_iff] at h
  refine pool_y ⟨h.1, h.2.2, ?_, ?_, idle_rep _ _ _, ?_, ?_, rfl, ?_⟩
  · rw [List.length_replicate]; omega
  · rw [List.length_replicate, List.length_replicate]
  · rw [new_all]; decide
  · rw [new_all]
    simp only [List.all_cons, List.all_nil, Bool.and_true]
    unfold jobOk
    rw [pw_nil]; rfl
  · rw [new_all]; simp
theorem pool_new {p : V.Prog} {n f : Int} (h : poolP p f [[]] (List.replicate n.toNat []) (List.replicate n.toNat false) [] = true) (h1 : 1 ≤ n) (h2 : n ≤ 4) : newP p n f = true := by
  have q := @of_decide_eq_true _ (Classical.propDecidable _) h
  rw [newP_iff]
  exact ⟨q.hp, ⟨h1, h2⟩, q.hf⟩
set_option maxHeartbeats 8000000 in
set_option maxRecDepth 100000 in
theorem i_NewPoolY (w mem inn : Int) (code : List V.Ins) (n f : Int) (hn : newP ⟨w, mem, inn, code⟩ n f = true) : CallsF Tryz.prog 13 [.agg [.dat (.i w), .dat (.i mem), .dat (.i inn), .dat (.seq .inss code)], .dat (.i n), .dat (.i f)] true (fun res B => res = .tup [.agg [.dat (.i f), .row 0, .row 1, .row 2, .nils], .dat (.bool true)] ∧ B = [.tree 61 .intss [[]], .tree 61 .intss (List.replicate n.toNat []), .row 4 .bools (List.replicate n.toNat false) false]) := by
  refine CallsF.of_awp tauOk mixOk Tryz.func13 rfl rfl rfl ?_
  conv => whnf
  repeat' (first
    | ((with_reducible refine fun (K1 : AX → AState → Prop) hK => ?_); (with_reducible refine awp_rg ?_ ?_); exact rfl; conv => whnf)
    | ((with_reducible refine fun (K1 : AX → AState → Prop) hK => ?_); (with_reducible refine awp_dw ?_ ?_); exact rfl; (conv => whnf); simp only [List.nil_append, List.cons_append])
    | ((with_reducible refine WRun_nil ?_); conv => whnf)
    | ((with_reducible refine WRun_go ?_ ?_); exact rfl; conv => whnf)
    | ((with_reducible refine WRun_skip ?_ ?_); exact rfl)
    | ((with_reducible refine WAg_nil ?_))
    | ((with_reducible refine WAg_go ?_ ?_); exact rfl; conv => whnf)
    | ((with_reducible refine WAg_skip ?_ ?_); exact rfl)
    | ((with_reducible refine WR_end ?_ ?_); exact rfl; conv => whnf)
    | ((with_reducible show WR _ _ _ _ _ _ _ _ _); refine WR_go rfl ?_)
    | ((with_reducible show WEach _ _); refine WEach_one rfl ?_; conv => whnf)
    | ((with_reducible show WEach _ _); refine WEach_more rfl ?_ ?_; conv => whnf)
    | ((with_reducible refine Alt.r ?_); conv => whnf)
    | ((with_reducible refine fun (K1 : AX → AState → Prop) hK => ?_); conv => whnf)
    | ((with_reducible show K1 _ _); subst hK; conv => whnf)
    | (with_reducible exact rfl)
    | ((with_reducible refine sp_T ?_); conv => whnf)
    | ((with_reducible refine sp_T' ?_); conv => whnf)
    | ((with_reducible refine sp_F' ?_); conv => whnf)
    | ((with_reducible refine sp_d (fun h => ?_) (fun h => ?_)) <;> first | contradiction | (subst h; conv => whnf) | (conv => whnf))
    | ((with_reducible refine sp_d' (fun h => ?_) (fun h => ?_)) <;> first | contradiction | (subst h; conv => whnf) | (conv => whnf))
    | ((with_reducible refine sp_nb (fun h => ?_) (fun h => ?_)) <;> first | (exact Bool.noConfusion (Eq.trans (Eq.symm h) (show _ = true by with_reducible assumption))) | (exact Bool.noConfusion (Eq.trans (Eq.symm (show _ = false by with_reducible assumption)) h)) | (conv => whnf))
    | (refine ⟨(rfl : nodupB _ = true), rfl, ?_⟩; conv => whnf)
    | (with_reducible refine bnd2' ?_ ?_)
    | ((with_reducible refine and_of ?_ ?_); conv => whnf)
    | ((with_reducible refine pcI (g := 22) ?_); refine ⟨_, i_PoolOk (hol := ?_) (hdl := ?_) (hj := ?_) .., rfl, ?_⟩; rotate_right; conv => whnf)
    | ((with_reducible show Exists _); refine Exists.intro _ (And.intro (i_PoolOk (hol := ?_) (hdl := ?_) (hj := ?_) ..) (And.intro rfl ?_)); rotate_right; conv => whnf)
    | ((with_reducible show awpOps _ _ _ _ _ _); conv => whnf)
    | (intro h; conv => whnf))
  all_goals (repeat (clear hK; clear K1))
  all_goals (have hn2 := (newP_iff.1 hn).2.1)
  all_goals first
    | exact True.intro
    | exact ⟨rfl, rfl⟩
    | exact Bool.noConfusion ((new_pool hn).symm.trans (by with_reducible assumption))
    | ((with_reducible show (_ : Int) ≤ _); first | omega | (show n * 24 ≤ _; omega) | (show n * 1 ≤ _; omega) | (show n ≤ (((2 ^ 63 - 1 : Nat)) : Int); omega))
    | ((with_reducible show _ ≤ _); first | omega | decide | (simp; done))
    | exact rfl
    | (exfalso; omega)
    | skip
set_option maxHeartbeats 8000000 in
set_option maxRecDepth 100000 in
theorem i_NewPoolN (w mem inn : Int) (code : List V.Ins) (n f : Int) (hn : newP ⟨w, mem, inn, code⟩ n f = false) : CallsF Tryz.prog 13 [.agg [.dat (.i w), .dat (.i mem), .dat (.i inn), .dat (.seq .inss code)], .dat (.i n), .dat (.i f)] true (fun res B => res = .tup [.agg [.dat (.i 0), .nils, .nils, .nils, .nils], .dat (.bool false)] ∧ B = []) := by
  refine CallsF.of_awp tauOk mixOk Tryz.func13 rfl rfl rfl ?_
  conv => whnf
  repeat' (first
    | ((with_reducible refine fun (K1 : AX → AState → Prop) hK => ?_); (with_reducible refine awp_rg ?_ ?_); exact rfl; conv => whnf)
    | ((with_reducible refine fun (K1 : AX → AState → Prop) hK => ?_); (with_reducible refine awp_dw ?_ ?_); exact rfl; (conv => whnf); simp only [List.nil_append, List.cons_append])
    | ((with_reducible refine WRun_nil ?_); conv => whnf)
    | ((with_reducible refine WRun_go ?_ ?_); exact rfl; conv => whnf)
    | ((with_reducible refine WRun_skip ?_ ?_); exact rfl)
    | ((with_reducible refine WAg_nil ?_))
    | ((with_reducible refine WAg_go ?_ ?_); exact rfl; conv => whnf)
    | ((with_reducible refine WAg_skip ?_ ?_); exact rfl)
    | ((with_reducible refine WR_end ?_ ?_); exact rfl; conv => whnf)
    | ((with_reducible show WR _ _ _ _ _ _ _ _ _); refine WR_go rfl ?_)
    | ((with_reducible show WEach _ _); refine WEach_one rfl ?_; conv => whnf)
    | ((with_reducible show WEach _ _); refine WEach_more rfl ?_ ?_; conv => whnf)
    | ((with_reducible refine Alt.l ?_); conv => whnf)
    | ((with_reducible refine fun (K1 : AX → AState → Prop) hK => ?_); conv => whnf)
    | ((with_reducible show K1 _ _); subst hK; conv => whnf)
    | (with_reducible exact rfl)
    | ((with_reducible refine sp_T ?_); conv => whnf)
    | ((with_reducible refine sp_T' ?_); conv => whnf)
    | ((with_reducible refine sp_F' ?_); conv => whnf)
    | ((with_reducible refine sp_d (fun h => ?_) (fun h => ?_)) <;> first | contradiction | (subst h; conv => whnf) | (conv => whnf))
    | ((with_reducible refine sp_d' (fun h => ?_) (fun h => ?_)) <;> first | contradiction | (subst h; conv => whnf) | (conv => whnf))
    | ((with_reducible refine sp_nb (fun h => ?_) (fun h => ?_)) <;> first | (exact Bool.noConfusion (Eq.trans (Eq.symm h) (show _ = true by with_reducible assumption))) | (exact Bool.noConfusion (Eq.trans (Eq.symm (show _ = false by with_reducible assumption)) h)) | (conv => whnf))
    | (refine ⟨(rfl : nodupB _ = true), rfl, ?_⟩; conv => whnf)
    | (with_reducible refine bnd2' ?_ ?_)
    | ((with_reducible refine and_of ?_ ?_); conv => whnf)
    | ((with_reducible refine pcI (g := 22) ?_); refine ⟨_, i_PoolOk (hol := ?_) (hdl := ?_) (hj := ?_) .., rfl, ?_⟩; rotate_right; conv => whnf)
    | ((with_reducible show Exists _); refine Exists.intro _ (And.intro (i_PoolOk (hol := ?_) (hdl := ?_) (hj := ?_) ..) (And.intro rfl ?_)); rotate_right; conv => whnf)
    | ((with_reducible show awpOps _ _ _ _ _ _); conv => whnf)
    | (intro h; conv => whnf))
  all_goals (repeat (clear hK; clear K1))
  all_goals first
    | exact True.intro
    | exact ⟨rfl, rfl⟩
    | exact rfl
    | exact ⟨rfl, rfl, rfl, rfl, rfl, True.intro⟩
    | ((with_reducible show (_ : Int) ≤ _); first | omega | (show n * 24 ≤ _; omega) | (show n * 1 ≤ _; omega) | (show n ≤ (((2 ^ 63 - 1 : Nat)) : Int); omega))
    | ((with_reducible show _ ≤ _); first | omega | decide | (simp; done))
    | exact Bool.noConfusion (hn.symm.trans (pool_new (by with_reducible assumption) (by omega) (by omega)))
    | skip
set_option maxHeartbeats 8000000 in
set_option maxRecDepth 100000 in
theorem s_NewPoolY (w mem inn : Int) (code : List V.Ins) (n f : Int) (hn : newP ⟨w, mem, inn, code⟩ n f = true) : CallsV Tryz.prog 11 [.agg [.dat (.i w), .dat (.i mem), .dat (.i inn), .dat (.seq .inss code)], .dat (.i n), .dat (.i f)] (.tup [.agg [.dat (.i f), .dat (.seq .intss [[]]), .dat (.seq .intss (List.replicate n.toNat [])), .dat (.seq .bools (List.replicate n.toNat false)), .dat (.seq .intss [])], .dat (.bool true)]) := by
  refine CallsV.of_awp tauOk mixOk Tryz.func11 rfl rfl rfl ?_
  conv => whnf
  repeat' (first
    | ((with_reducible refine fun (K1 : AX → AState → Prop) hK => ?_); (with_reducible refine awp_rg ?_ ?_); exact rfl; conv => whnf)
    | ((with_reducible refine fun (K1 : AX → AState → Prop) hK => ?_); (with_reducible refine awp_dw ?_ ?_); exact rfl; (conv => whnf); simp only [List.nil_append, List.cons_append])
    | ((with_reducible refine WRun_nil ?_); conv => whnf)
    | ((with_reducible refine WRun_go ?_ ?_); exact rfl; conv => whnf)
    | ((with_reducible refine WRun_skip ?_ ?_); exact rfl)
    | ((with_reducible refine WAg_nil ?_))
    | ((with_reducible refine WAg_go ?_ ?_); exact rfl; conv => whnf)
    | ((with_reducible refine WAg_skip ?_ ?_); exact rfl)
    | ((with_reducible refine WR_end ?_ ?_); exact rfl; conv => whnf)
    | ((with_reducible show WR _ _ _ _ _ _ _ _ _); refine WR_go rfl ?_)
    | ((with_reducible show WEach _ _); refine WEach_one rfl ?_; conv => whnf)
    | ((with_reducible show WEach _ _); refine WEach_more rfl ?_ ?_; conv => whnf)
    | ((with_reducible refine Alt.l ?_); conv => whnf)
    | ((with_reducible refine fun (K1 : AX → AState → Prop) hK => ?_); conv => whnf)
    | ((with_reducible show K1 _ _); subst hK; conv => whnf)
    | (with_reducible exact rfl)
    | ((with_reducible refine sp_T ?_); conv => whnf)
    | ((with_reducible refine sp_T' ?_); conv => whnf)
    | ((with_reducible refine sp_F' ?_); conv => whnf)
    | ((with_reducible refine sp_nb (fun h => ?_) (fun h => ?_)) <;> first | (exact Bool.noConfusion (Eq.trans (Eq.symm h) (show _ = true by with_reducible assumption))) | (exact Bool.noConfusion (Eq.trans (Eq.symm (show _ = false by with_reducible assumption)) h)) | (conv => whnf))
    | ((with_reducible refine sp_nb' (fun h => ?_) (fun h => ?_)) <;> first | (exact Bool.noConfusion (Eq.trans (Eq.symm h) (show _ = true by with_reducible assumption))) | (exact Bool.noConfusion (Eq.trans (Eq.symm (show _ = false by with_reducible assumption)) h)) | (conv => whnf))
    | (refine ⟨(rfl : nodupB _ = true), rfl, ?_⟩; conv => whnf)
    | (with_reducible refine bnd2' ?_ ?_)
    | ((with_reducible refine and_of ?_ ?_); conv => whnf)
    | ((with_reducible refine pcI (g := 37) ?_); refine ⟨_, s_ProgramOk .., rfl, ?_⟩; rotate_right; conv => whnf)
    | ((with_reducible show Exists _); refine Exists.intro _ (And.intro (s_ProgramOk ..) (And.intro rfl ?_)); rotate_right; conv => whnf)
    | ((with_reducible refine pcI (g := 38) ?_); refine ⟨_, s_l01In .., rfl, ?_⟩; rotate_right; conv => whnf)
    | ((with_reducible show Exists _); refine Exists.intro _ (And.intro (s_l01In ..) (And.intro rfl ?_)); rotate_right; conv => whnf)
    | ((with_reducible show awpOps _ _ _ _ _ _); conv => whnf)
    | (intro h; conv => whnf))
  all_goals (repeat (clear hK; clear K1))
  all_goals (have hn2 := newP_iff.1 hn)
  all_goals first
    | exact True.intro
    | exact rfl
    | exact ⟨rfl, rfl, rfl, rfl, rfl, True.intro⟩
    | ((with_reducible show (_ : Int) ≤ _); first | omega | (show n * 24 ≤ _; omega) | (show n * 1 ≤ _; omega) | (show n ≤ (((2 ^ 63 - 1 : Nat)) : Int); omega))
    | ((with_reducible show _ ≤ _); first | omega | decide | (simp; done))
    | exact Bool.noConfusion (hn2.1.symm.trans (by with_reducible assumption))
    | exact Bool.noConfusion ((inP_iff.2 hn2.2.1).symm.trans (by with_reducible assumption))
    | exact Bool.noConfusion (hn2.2.2.symm.trans (by with_reducible assumption))
    | skip
set_option maxHeartbeats 8000000 in
set_option maxRecDepth 100000 in
theorem s_NewPoolN (w mem inn : Int) (code : List V.Ins) (n f : Int) (hn : newP ⟨w, mem, inn, code⟩ n f = false) : CallsV Tryz.prog 11 [.agg [.dat (.i w), .dat (.i mem), .dat (.i inn), .dat (.seq .inss code)], .dat (.i n), .dat (.i f)] (.tup [.agg [.dat (.i 0), .dat (.seq .intss []), .dat (.seq .intss []), .dat (.seq .bools []), .dat (.seq .intss [])], .dat (.bool false)]) := by
  refine CallsV.of_awp tauOk mixOk Tryz.func11 rfl rfl rfl ?_
  conv => whnf
  repeat' (first
    | ((with_reducible refine fun (K1 : AX → AState → Prop) hK => ?_); (with_reducible refine awp_rg ?_ ?_); exact rfl; conv => whnf)
    | ((with_reducible refine fun (K1 : AX → AState → Prop) hK => ?_); (with_reducible refine awp_dw ?_ ?_); exact rfl; (conv => whnf); simp only [List.nil_append, List.cons_append])
    | ((with_reducible refine WRun_nil ?_); conv => whnf)
    | ((with_reducible refine WRun_go ?_ ?_); exact rfl; conv => whnf)
    | ((with_reducible refine WRun_skip ?_ ?_); exact rfl)
    | ((with_reducible refine WAg_nil ?_))
    | ((with_reducible refine WAg_go ?_ ?_); exact rfl; conv => whnf)
    | ((with_reducible refine WAg_skip ?_ ?_); exact rfl)
    | ((with_reducible refine WR_end ?_ ?_); exact rfl; conv => whnf)
    | ((with_reducible show WR _ _ _ _ _ _ _ _ _); refine WR_go rfl ?_)
    | ((with_reducible show WEach _ _); refine WEach_one rfl ?_; conv => whnf)
    | ((with_reducible show WEach _ _); refine WEach_more rfl ?_ ?_; conv => whnf)
    | ((with_reducible refine Alt.l ?_); conv => whnf)
    | ((with_reducible refine fun (K1 : AX → AState → Prop) hK => ?_); conv => whnf)
    | ((with_reducible show K1 _ _); subst hK; conv => whnf)
    | (with_reducible exact rfl)
    | ((with_reducible refine sp_T ?_); conv => whnf)
    | ((with_reducible refine sp_T' ?_); conv => whnf)
    | ((with_reducible refine sp_F' ?_); conv => whnf)
    | ((with_reducible refine sp_nb (fun h => ?_) (fun h => ?_)) <;> first | (exact Bool.noConfusion (Eq.trans (Eq.symm h) (show _ = true by with_reducible assumption))) | (exact Bool.noConfusion (Eq.trans (Eq.symm (show _ = false by with_reducible assumption)) h)) | (conv => whnf))
    | ((with_reducible refine sp_nb' (fun h => ?_) (fun h => ?_)) <;> first | (exact Bool.noConfusion (Eq.trans (Eq.symm h) (show _ = true by with_reducible assumption))) | (exact Bool.noConfusion (Eq.trans (Eq.symm (show _ = false by with_reducible assumption)) h)) | (conv => whnf))
    | (refine ⟨(rfl : nodupB _ = true), rfl, ?_⟩; conv => whnf)
    | (with_reducible refine bnd2' ?_ ?_)
    | ((with_reducible refine and_of ?_ ?_); conv => whnf)
    | ((with_reducible refine pcI (g := 37) ?_); refine ⟨_, s_ProgramOk .., rfl, ?_⟩; rotate_right; conv => whnf)
    | ((with_reducible show Exists _); refine Exists.intro _ (And.intro (s_ProgramOk ..) (And.intro rfl ?_)); rotate_right; conv => whnf)
    | ((with_reducible refine pcI (g := 38) ?_); refine ⟨_, s_l01In .., rfl, ?_⟩; rotate_right; conv => whnf)
    | ((with_reducible show Exists _); refine Exists.intro _ (And.intro (s_l01In ..) (And.intro rfl ?_)); rotate_right; conv => whnf)
    | ((with_reducible show awpOps _ _ _ _ _ _); conv => whnf)
    | (intro h; conv => whnf))
  all_goals (repeat (clear hK; clear K1))
  all_goals first
    | exact True.intro
    | exact rfl
    | exact ⟨rfl, rfl, rfl, rfl, rfl, True.intro⟩
    | (have q : 1 ≤ n ∧ n ≤ 4 := inP_iff.1 (by with_reducible assumption); (with_reducible show (_ : Int) ≤ _); first | omega | (show n * 24 ≤ _; omega) | (show n * 1 ≤ _; omega) | (show n ≤ (((2 ^ 63 - 1 : Nat)) : Int); omega))
    | ((with_reducible show _ ≤ _); first | omega | decide | (simp; done))
    | exact Bool.noConfusion (hn.symm.trans (newP_iff.2 ⟨(by with_reducible assumption), inP_iff.1 (by with_reducible assumption), (by with_reducible assumption)⟩))
    | skip
end Vg
