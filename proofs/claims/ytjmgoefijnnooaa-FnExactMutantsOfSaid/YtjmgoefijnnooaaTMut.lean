/- Slices of programs in memory of their own: marks and mutants, contracts. Condition: lists are no longer than the law lets through. -/
import Derived.Test.YtjmgoefijnnooaaTMark
import Derived.Test.YtjmgoefijnnooaaMut
namespace Vg
open Go Go.Proofs
/-- counters that the first i programs take -/
def offP (l : List V.Prog) (i : Nat) : Nat := ((l.take i).map fun p => 3 + 4 * p.code.length).sum
theorem offP_step {l : List V.Prog} {i : Nat} (h : (i : Int) < l.length) : offP l (i + 1) = offP l i + (3 + 4 * (l.getD i K.progs.dflt).code.length) := by
  have h' : i < l.length := by omega
  simp only [offP, List.take_succ_eq_append_getElem h', List.map_append, List.sum_append, List.map_cons, List.map_nil, List.sum_cons, List.sum_nil, List.getD_eq_getElem?_getD, List.getElem?_eq_getElem h', Option.getD_some, Nat.add_zero]
theorem offP_le (l : List V.Prog) (i : Nat) : offP l i ≤ offP l l.length := by
  unfold offP
  rw [List.take_length]
  conv => rhs; rw [← List.take_append_drop i l]
  simp only [List.map_append, List.sum_append]
  exact Nat.le_add_right _ _
theorem offP_code {l : List V.Prog} {i : Nat} (h : (i : Int) < l.length) (hl : offP l l.length ≤ 16777216) : (l.getD i K.progs.dflt).code.length ≤ 4194304 := by
  have h1 := offP_step h
  have h2 := offP_le l (i + 1)
  omega
def mkPP (k : Int) (l : List V.Prog) (n : Nat) : List V.Prog := (List.range n).map fun i =>
  ⟨k + (offP l i : Nat), k + (offP l i : Nat) + 1, k + (offP l i : Nat) + 1 + 1, mkQ (k + (offP l i : Nat) + 1 + 1 + 1) (l.getD i K.progs.dflt).code.length⟩
theorem mkPP_len (k : Int) (l : List V.Prog) (n : Nat) : (mkPP k l n).length = n := by simp [mkPP]
theorem mkPP_get {k : Int} {l : List V.Prog} {n i : Nat} (h : (i : Int) < n) : (mkPP k l n).getD i K.progs.dflt =
    ⟨k + (offP l i : Nat), k + (offP l i : Nat) + 1, k + (offP l i : Nat) + 1 + 1, mkQ (k + (offP l i : Nat) + 1 + 1 + 1) (l.getD i K.progs.dflt).code.length⟩ := by
  have h' : i < n := by omega
  simp [mkPP, List.getD_eq_getElem?_getD, h']
theorem mkPP_mid {k : Int} {l : List V.Prog} {i : Nat} : (mkPP k l i ++ l.drop i).getD i K.progs.dflt = l.getD i K.progs.dflt := by
  rw [List.getD_eq_getElem?_getD, List.getElem?_append_right (by rw [mkPP_len]; exact Nat.le_refl i), mkPP_len, Nat.sub_self, List.getElem?_drop, Nat.add_zero, ← List.getD_eq_getElem?_getD]
theorem lt_of_midP {k : Int} {l : List V.Prog} {i : Nat} (h : (i : Int) < ((mkPP k l i ++ l.drop i).length : Nat)) : (i : Int) < l.length := by
  simp only [mkPP_len, List.length_append, List.length_drop] at h; omega
theorem lt_of_mkPP {k : Int} {l : List V.Prog} {n i : Nat} (h : (i : Int) < ((mkPP k l n).length : Nat)) : (i : Int) < n := by rwa [mkPP_len] at h
theorem mkPP_step {k : Int} {l : List V.Prog} {i : Nat} (h : (i : Int) < l.length) :
    (mkPP k l i ++ l.drop i).set i ⟨k + (offP l i : Nat), k + (offP l i : Nat) + 1, k + (offP l i : Nat) + 1 + 1, mkQ (k + (offP l i : Nat) + 1 + 1 + 1) (l.getD i K.progs.dflt).code.length⟩ = mkPP k l (i + 1) ++ l.drop (i + 1) := by
  have h' : i < l.length := by omega
  rw [List.set_append_right _ _ (by simp [mkPP])]
  simp only [mkPP, List.length_map, List.length_range, Nat.sub_self, List.drop_eq_getElem_cons h', List.set_cons_zero, List.range_succ, List.map_append, List.map_cons, List.map_nil, List.append_assoc, List.cons_append, List.nil_append]
theorem mkPP_step4 {k k1 k2 k3 : Int} {l : List V.Prog} {i : Nat} (h : (i : Int) < l.length) (h1 : k1 = k + (offP l i : Nat) + 1) (h2 : k2 = k + (offP l i : Nat) + 1 + 1) (h3 : k3 = k + (offP l i : Nat) + 1 + 1 + 1)
    {L1 L2 L3 L4 : List V.Prog} (e4 : L4 = L3.set (i : Int).toNat ⟨(L3.getD (i : Int).toNat K.progs.dflt).w, (L3.getD (i : Int).toNat K.progs.dflt).mem, (L3.getD (i : Int).toNat K.progs.dflt).inn, mkQ k3 (L3.getD (i : Int).toNat K.progs.dflt).code.length⟩)
    (e3 : L3 = L2.set (i : Int).toNat ⟨(L2.getD (i : Int).toNat K.progs.dflt).w, (L2.getD (i : Int).toNat K.progs.dflt).mem, k2, (L2.getD (i : Int).toNat K.progs.dflt).code⟩)
    (e2 : L2 = L1.set (i : Int).toNat ⟨(L1.getD (i : Int).toNat K.progs.dflt).w, k1, (L1.getD (i : Int).toNat K.progs.dflt).inn, (L1.getD (i : Int).toNat K.progs.dflt).code⟩)
    (e1 : L1 = (mkPP k l i ++ l.drop i).set (i : Int).toNat ⟨k + (offP l i : Nat), ((mkPP k l i ++ l.drop i).getD (i : Int).toNat K.progs.dflt).mem, ((mkPP k l i ++ l.drop i).getD (i : Int).toNat K.progs.dflt).inn, ((mkPP k l i ++ l.drop i).getD (i : Int).toNat K.progs.dflt).code⟩) :
    mkPP k l (i + 1) ++ l.drop (i + 1) = L4 ∧ L3.getD (i : Int).toNat K.progs.dflt = ⟨k + (offP l i : Nat), k + (offP l i : Nat) + 1, k + (offP l i : Nat) + 1 + 1, (l.getD i K.progs.dflt).code⟩ ∧ L3.length = l.length ∧ L2.length = l.length ∧ L1.length = l.length := by
  have h' : i < (mkPP k l i ++ l.drop i).length := by simp [mkPP]; omega
  have hlen : (mkPP k l i ++ l.drop i).length = l.length := by simp only [List.length_append, mkPP_len, List.length_drop]; omega
  rw [Int.toNat_natCast] at e1 e2 e3 e4 ⊢
  subst h1 h2 h3
  rw [mkPP_mid] at e1
  subst e1
  rw [set_getD h', List.set_set] at e2; subst e2
  rw [set_getD h', List.set_set] at e3; subst e3
  rw [set_getD h', List.set_set] at e4; subst e4
  refine ⟨(mkPP_step h).symm, set_getD h', ?_, ?_, ?_⟩ <;> rw [List.length_set, hlen]
theorem mkPP_end {k : Int} {l : List V.Prog} {i : Nat} (h : ¬ (i : Int) < ((mkPP k l i ++ l.drop i).length : Nat)) (hi : i ≤ l.length) : mkPP k l i ++ l.drop i = mkPP k l l.length := by
  simp only [mkPP_len, List.length_append, List.length_drop] at h
  have : i = l.length := by omega
  subst this; simp
theorem offP_end {k : Int} {l : List V.Prog} {i : Nat} (h : ¬ (i : Int) < ((mkPP k l i ++ l.drop i).length : Nat)) (hi : i ≤ l.length) : offP l i = offP l l.length := by
  simp only [mkPP_len, List.length_append, List.length_drop] at h
  rw [show i = l.length from by omega]
theorem v1 {k : Int} {l : List V.Prog} {i : Nat} (h0 : 0 ≤ k) (h1 : k ≤ 8589934592) (hl : offP l l.length ≤ 16777216) : IntKind.i64.wrap (k + (offP l i : Nat) + 1) = k + (offP l i : Nat) + 1 := by
  have := offP_le l i; exact wr (by omega) (by omega)
theorem v2 {k : Int} {l : List V.Prog} {i : Nat} (h0 : 0 ≤ k) (h1 : k ≤ 8589934592) (hl : offP l l.length ≤ 16777216) : IntKind.i64.wrap (IntKind.i64.wrap (k + (offP l i : Nat) + 1) + 1) = k + (offP l i : Nat) + 1 + 1 := by
  have := offP_le l i; rw [v1 h0 h1 hl]; exact wr (by omega) (by omega)
theorem v3 {k : Int} {l : List V.Prog} {i : Nat} (h0 : 0 ≤ k) (h1 : k ≤ 8589934592) (hl : offP l l.length ≤ 16777216) : IntKind.i64.wrap (IntKind.i64.wrap (IntKind.i64.wrap (k + (offP l i : Nat) + 1) + 1) + 1) = k + (offP l i : Nat) + 1 + 1 + 1 := by
  have := offP_le l i; rw [v2 h0 h1 hl]; exact wr (by omega) (by omega)
theorem mkPP_cnt {k k3 : Int} {l : List V.Prog} {i : Nat} {x : V.Prog} {a b c : Int} (hx : x = ⟨a, b, c, (l.getD i K.progs.dflt).code⟩) (h : (i : Int) < l.length) (h3 : k3 = k + (offP l i : Nat) + 1 + 1 + 1) :
    k + (offP l (i + 1) : Nat) = k3 + 4 * (x.code.length : Nat) := by
  subst hx h3
  rw [offP_step h]; simp only; omega
set_option maxHeartbeats 2000000 in
set_option maxRecDepth 100000 in
theorem g_markProgramS (l : List V.Prog) (k : Int) (h0 : 0 ≤ k) (h1 : k ≤ 8589934592) (hl : offP l l.length ≤ 16777216) : CallsG Try.prog 70 [.row 0, .dat (.i k)] [.tree 32 .progs l] 1 (fun res B => res = .dat (.i (k + (offP l l.length : Nat))) ∧ B = [.tree 32 .progs (mkPP k l l.length)]) := by
  refine CallsG.of_awp tauOk mixOk Try.func70 rfl rfl rfl ?_
  conv => whnf
  repeat' (first
    | ((with_reducible refine Alt.l ?_); conv => whnf)
    | ((with_reducible refine fun (K1 : AX → AState → Prop) hK => ?_); conv => whnf)
    | ((with_reducible show K1 _ _); subst hK; conv => whnf)
    | (with_reducible exact rfl)
    | ((with_reducible refine sp_T ?_); conv => whnf)
    | ((with_reducible refine sp_F ?_); conv => whnf)
    | ((with_reducible refine sp_T' ?_); conv => whnf)
    | ((with_reducible refine sp_F' ?_); conv => whnf)
    | ((with_reducible refine sp_dF ?_ ?_); decide; conv => whnf)
    | ((with_reducible refine sp_dT ?_ ?_); decide; conv => whnf)
    | ((with_reducible refine sp_d (fun h => ?_) (fun h => ?_)) <;> first | contradiction | (subst h; conv => whnf) | (conv => whnf))
    | ((with_reducible refine sp_d' (fun h => ?_) (fun h => ?_)) <;> first | contradiction | (subst h; conv => whnf) | (conv => whnf))
    | ((with_reducible refine sp_eF ?_ ?_); decide; conv => whnf)
    | ((with_reducible refine sp_eT ?_); conv => whnf)
    | ((with_reducible refine sp_e (fun h => ?_) (fun h => ?_)) <;> first | contradiction | (subst h; conv => whnf) | (conv => whnf))
    | ((with_reducible refine sp_e' (fun h => ?_) (fun h => ?_)) <;> first | contradiction | (subst h; conv => whnf) | (conv => whnf))
    | ((with_reducible refine sp_n (fun h => ?_) (fun h => ?_)) <;> first | contradiction | (subst h; conv => whnf) | (conv => whnf))
    | ((with_reducible refine sp_n' (fun h => ?_) (fun h => ?_)) <;> first | contradiction | (subst h; conv => whnf) | (conv => whnf))
    | ((with_reducible refine sp_nb (fun h => ?_) (fun h => ?_)) <;> first | contradiction | (exact Bool.noConfusion (Eq.trans (Eq.symm h) (show _ = true by assumption))) | (exact Bool.noConfusion (Eq.trans (Eq.symm (show _ = false by assumption)) h)) | (conv => whnf))
    | ((with_reducible refine sp_nb' (fun h => ?_) (fun h => ?_)) <;> first | contradiction | (exact Bool.noConfusion (Eq.trans (Eq.symm h) (show _ = true by assumption))) | (exact Bool.noConfusion (Eq.trans (Eq.symm (show _ = false by assumption)) h)) | (conv => whnf))
    | ((with_reducible refine sp_b (fun h => ?_) (fun h => ?_)) <;> first | contradiction | (exact Bool.noConfusion (Eq.trans (Eq.symm h) (show _ = true by assumption))) | (exact Bool.noConfusion (Eq.trans (Eq.symm (show _ = false by assumption)) h)) | (conv => whnf))
    | ((with_reducible refine sp_b' (fun h => ?_) (fun h => ?_)) <;> first | contradiction | (exact Bool.noConfusion (Eq.trans (Eq.symm h) (show _ = true by assumption))) | (exact Bool.noConfusion (Eq.trans (Eq.symm (show _ = false by assumption)) h)) | (conv => whnf))
    | (refine ⟨(rfl : nodupB _ = true), rfl, ?_⟩; conv => whnf)
    | (with_reducible refine bnd2 ?_ ?_)
    | (with_reducible refine bnd2' ?_ ?_)
    | (with_reducible refine bndN ?_ ?_)
    | ((with_reducible refine and_of ?_ ?_); conv => whnf)
    | (refine Exists.intro ({i : Nat // i ≤ l.length}) (Exists.intro (fun ⟨i, hi⟩ => mkS Try.f70.ntmps [(0, .row 900000), (1, .dat (.i (k + (offP l i : Nat)))), (5, .dat (.i i))] [(900000, .tree 32 .progs (mkPP k l i ++ l.drop i))]) (Exists.intro (fun ⟨i, hi⟩ => l.length - i) (Exists.intro ⟨0, Nat.zero_le _⟩ (And.intro (SubP.sub (σ := [(900000, some 900000)]) ⟨⟨rfl, rfl, rfl⟩, ⟨rfl, (wk_dat ?_), (wk_dat ?_), trivial⟩, ⟨⟨rfl, ?_⟩, trivial⟩⟩) (fun ⟨i, hi⟩ => ?_))))); rotate_right; conv => whnf)
    | (refine Exists.intro ⟨i + 1, ?_⟩ (And.intro ?_ (SubP.sub (σ := [(900000, some 900000)]) ⟨⟨rfl, rfl, rfl⟩, ⟨rfl, (wk_dat ?_), (wk_dat ?_), trivial⟩, ⟨⟨rfl, ?_⟩, trivial⟩⟩)))
    | ((with_reducible refine gcI (g := 87) ?_); refine ⟨_, _, g_markInsS (h0 := ?_) (h1 := ?_) (hl := ?_) .., fun res B hRB => ?_⟩; rotate_right; obtain ⟨rfl, rfl⟩ := hRB; conv => whnf)
    | ((with_reducible refine mcI (g := 87) ?_); refine ⟨_, g_markInsS (h0 := ?_) (h1 := ?_) (hl := ?_) .., fun res B hRB => ?_⟩; rotate_right; obtain ⟨rfl, rfl⟩ := hRB; conv => whnf)
    | ((with_reducible refine pcI (g := 87) ?_); refine ⟨_, g_markInsS0 .., rfl, ?_⟩; rotate_right; conv => whnf)
    | ((with_reducible show Exists _); refine Exists.intro _ (And.intro (g_markInsS0 ..) (And.intro rfl ?_)); rotate_right; conv => whnf)
    | ((with_reducible show awpOps _ _ _ _ _ _); conv => whnf)
    | (intro h; conv => whnf))
  all_goals (repeat (clear hK; clear K1))
  all_goals first
    | rfl
    | assumption
    | exact Bool.noConfusion (h.symm.trans hp)
    | omega
    | (dsimp only; omega)
    | exact congrArg (Dat.int .i64) (wrap_succ (by assumption) (by assumption)).symm
    | (have hb := lt_of_midP (k := k) (l := l) (i := i) (by assumption); first | omega | (dsimp only; omega) | (subst_vars; simp only [List.length_set, List.length_append, mkPP_len, List.length_drop]; omega))
    | (have hb := lt_of_midP (k := k) (l := l) (i := i) (by assumption); exact sig_fin (mkPP_step4 hb (v1 h0 h1 hl) (v2 h0 h1 hl) (v3 h0 h1 hl) (by assumption) (by assumption) (by assumption) (by assumption)).1)
    | (have hb := lt_of_midP (k := k) (l := l) (i := i) (by assumption); exact congrArg Dat.i (mkPP_cnt (mkPP_step4 hb (v1 h0 h1 hl) (v2 h0 h1 hl) (v3 h0 h1 hl) (by assumption) (by assumption) (by assumption) (by assumption)).2.1 hb (v3 h0 h1 hl)))
    | (have hb := lt_of_midP (k := k) (l := l) (i := i) (by assumption); rw [(mkPP_step4 hb (v1 h0 h1 hl) (v2 h0 h1 hl) (v3 h0 h1 hl) rfl (by assumption) (by assumption) (by assumption)).2.1]; exact offP_code hb hl)
    | (have := offP_le l i; rw [v3 h0 h1 hl]; omega)
    | exact tree_fin (mkPP_end h hi)
    | exact congrArg (fun x => AV.dat (Dat.i x)) (by rw [offP_end h hi])
    | exact congrArg Dat.i (by simp [offP])
    | skip
theorem lh_heldInsS (c : List V.Ins) (k : Int) (hc : c = mkQ k c.length) (h0 : 0 ≤ k) (h1 : k ≤ 1099511627776) (hl : c.length ≤ 4194304) : CallsV Try.prog 128 [.dat (.seq .inss c), .dat (.i k)] (.dat (.i (k + 4 * (c.length : Nat)))) := by
  rw [hc, mkQ_len]; exact l_heldInsS k c.length h0 h1 hl
theorem held_code {k k3 : Int} {l : List V.Prog} {i : Nat} (h : (i : Int) < l.length) (h3 : k3 = k + (offP l i : Nat) + 1 + 1 + 1) :
    ((mkPP k l l.length).getD (i : Int).toNat K.progs.dflt).code = mkQ k3 ((mkPP k l l.length).getD (i : Int).toNat K.progs.dflt).code.length := by
  rw [Int.toNat_natCast, mkPP_get h, h3]; simp only [mkQ_len]
theorem held_cnt {k k3 : Int} {l : List V.Prog} {i : Nat} (h : (i : Int) < l.length) (h3 : k3 = k + (offP l i : Nat) + 1 + 1 + 1) :
    k + (offP l (i + 1) : Nat) = k3 + 4 * (((mkPP k l l.length).getD (i : Int).toNat K.progs.dflt).code.length : Nat) := by
  rw [Int.toNat_natCast, mkPP_get h, h3, offP_step h]; simp only [mkQ_len]; omega
theorem held_short {k : Int} {l : List V.Prog} {i : Nat} (h : (i : Int) < l.length) (hl : offP l l.length ≤ 16777216) : ((mkPP k l l.length).getD (i : Int).toNat K.progs.dflt).code.length ≤ 4194304 := by
  rw [Int.toNat_natCast, mkPP_get h]; simp only [mkQ_len]; exact offP_code h hl
set_option maxHeartbeats 2000000 in
set_option maxRecDepth 100000 in
theorem l_heldProgramS (l : List V.Prog) (k : Int) (h0 : 0 ≤ k) (h1 : k ≤ 8589934592) (hl : offP l l.length ≤ 16777216) : CallsV Try.prog 71 [.dat (.seq .progs (mkPP k l l.length)), .dat (.i k)] (.dat (.i (k + (offP l l.length : Nat)))) := by
  refine CallsV.of_awp tauOk mixOk Try.func71 rfl rfl rfl ?_
  conv => whnf
  repeat' (first
    | ((with_reducible refine Alt.l ?_); conv => whnf)
    | ((with_reducible refine fun (K1 : AX → AState → Prop) hK => ?_); conv => whnf)
    | ((with_reducible show K1 _ _); subst hK; conv => whnf)
    | (with_reducible exact rfl)
    | ((with_reducible refine sp_T ?_); conv => whnf)
    | ((with_reducible refine sp_F ?_); conv => whnf)
    | ((with_reducible refine sp_T' ?_); conv => whnf)
    | ((with_reducible refine sp_F' ?_); conv => whnf)
    | ((with_reducible refine sp_dF ?_ ?_); decide; conv => whnf)
    | ((with_reducible refine sp_dT ?_ ?_); decide; conv => whnf)
    | ((with_reducible refine sp_d (fun h => ?_) (fun h => ?_)) <;> first | contradiction | (subst h; conv => whnf) | (conv => whnf))
    | ((with_reducible refine sp_d' (fun h => ?_) (fun h => ?_)) <;> first | contradiction | (subst h; conv => whnf) | (conv => whnf))
    | ((with_reducible refine sp_eF ?_ ?_); decide; conv => whnf)
    | ((with_reducible refine sp_eT ?_); conv => whnf)
    | ((with_reducible refine sp_e (fun h => ?_) (fun h => ?_)) <;> first | contradiction | (subst h; conv => whnf) | (conv => whnf))
    | ((with_reducible refine sp_e' (fun h => ?_) (fun h => ?_)) <;> first | contradiction | (subst h; conv => whnf) | (conv => whnf))
    | ((with_reducible refine sp_n (fun h => ?_) (fun h => ?_)) <;> first | contradiction | (subst h; conv => whnf) | (conv => whnf))
    | ((with_reducible refine sp_n' (fun h => ?_) (fun h => ?_)) <;> first | contradiction | (subst h; conv => whnf) | (conv => whnf))
    | ((with_reducible refine sp_nb (fun h => ?_) (fun h => ?_)) <;> first | contradiction | (exact Bool.noConfusion (Eq.trans (Eq.symm h) (show _ = true by assumption))) | (exact Bool.noConfusion (Eq.trans (Eq.symm (show _ = false by assumption)) h)) | (conv => whnf))
    | ((with_reducible refine sp_nb' (fun h => ?_) (fun h => ?_)) <;> first | contradiction | (exact Bool.noConfusion (Eq.trans (Eq.symm h) (show _ = true by assumption))) | (exact Bool.noConfusion (Eq.trans (Eq.symm (show _ = false by assumption)) h)) | (conv => whnf))
    | ((with_reducible refine sp_b (fun h => ?_) (fun h => ?_)) <;> first | contradiction | (exact Bool.noConfusion (Eq.trans (Eq.symm h) (show _ = true by assumption))) | (exact Bool.noConfusion (Eq.trans (Eq.symm (show _ = false by assumption)) h)) | (conv => whnf))
    | ((with_reducible refine sp_b' (fun h => ?_) (fun h => ?_)) <;> first | contradiction | (exact Bool.noConfusion (Eq.trans (Eq.symm h) (show _ = true by assumption))) | (exact Bool.noConfusion (Eq.trans (Eq.symm (show _ = false by assumption)) h)) | (conv => whnf))
    | (refine ⟨(rfl : nodupB _ = true), rfl, ?_⟩; conv => whnf)
    | (with_reducible refine bnd2 ?_ ?_)
    | (with_reducible refine bnd2' ?_ ?_)
    | (with_reducible refine bndN ?_ ?_)
    | ((with_reducible refine and_of ?_ ?_); conv => whnf)
    | (refine Exists.intro ({i : Nat // i ≤ l.length}) (Exists.intro (fun ⟨i, hi⟩ => mkS Try.f71.ntmps [(0, .dat (.seq .progs (mkPP k l l.length))), (1, .dat (.i (k + (offP l i : Nat)))), (5, .dat (.i i))] []) (Exists.intro (fun ⟨i, hi⟩ => l.length - i) (Exists.intro ⟨0, Nat.zero_le _⟩ (And.intro (SubP.sub (σ := []) ⟨⟨rfl, rfl, rfl⟩, ⟨(wk_dat ?_), (wk_dat ?_), (wk_dat ?_), trivial⟩, trivial⟩) (fun ⟨i, hi⟩ => ?_))))); rotate_right; conv => whnf)
    | (refine Exists.intro ⟨i + 1, ?_⟩ (And.intro ?_ (SubP.sub (σ := []) ⟨⟨rfl, rfl, rfl⟩, ⟨(wk_dat ?_), (wk_dat ?_), (wk_dat ?_), trivial⟩, trivial⟩)))
    | ((with_reducible show Exists _); refine Exists.intro _ (And.intro (l_heldInsS (h0 := ?_) (h1 := ?_) (hl := ?_) ..) (And.intro rfl ?_)); rotate_right; conv => whnf)
    | ((with_reducible refine pcI (g := 128) ?_); refine ⟨_, lh_heldInsS (hc := ?_) (h0 := ?_) (h1 := ?_) (hl := ?_) .., rfl, ?_⟩; rotate_right; conv => whnf)
    | ((with_reducible show Exists _); refine Exists.intro _ (And.intro (lh_heldInsS (hc := ?_) (h0 := ?_) (h1 := ?_) (hl := ?_) ..) (And.intro rfl ?_)); rotate_right; conv => whnf)
    | ((with_reducible show awpOps _ _ _ _ _ _); conv => whnf)
    | (intro h; conv => whnf))
  all_goals (repeat (clear hK; clear K1))
  all_goals first
    | rfl
    | assumption
    | exact Bool.noConfusion (h.symm.trans hp)
    | omega
    | (dsimp only; omega)
    | exact congrArg (Dat.int .i64) (wrap_succ (by assumption) (by assumption)).symm
    | (have hb := lt_of_mkPP (k := k) (l := l) (n := l.length) (i := i) (by assumption); first | omega | (dsimp only; omega) | exact absurd (congrArg V.Prog.w (mkPP_get hb)) h | exact absurd ((congrArg V.Prog.mem (mkPP_get hb)).trans (v1 h0 h1 hl).symm) h | exact absurd ((congrArg V.Prog.inn (mkPP_get hb)).trans (v2 h0 h1 hl).symm) h)
    | (have hb := lt_of_mkPP (k := k) (l := l) (n := l.length) (i := i) (by assumption); exfalso; have := offP_le l i; rw [v3 h0 h1 hl] at h; omega)
    | (have hb := lt_of_mkPP (k := k) (l := l) (n := l.length) (i := i) (by assumption); exact congrArg Dat.i (held_cnt hb (v3 h0 h1 hl)))
    | (have hb := lt_of_mkPP (k := k) (l := l) (n := l.length) (i := i) (by assumption); exact held_code hb (v3 h0 h1 hl))
    | (have hb := lt_of_mkPP (k := k) (l := l) (n := l.length) (i := i) (by assumption); exact held_short hb hl)
    | (have := offP_le l i; rw [v3 h0 h1 hl]; omega)
    | exact congrArg Dat.i (by rw [mkPP_len] at h; rw [show i = l.length from by omega])
    | exact congrArg Dat.i (by simp [offP])
    | skip
end Vg
