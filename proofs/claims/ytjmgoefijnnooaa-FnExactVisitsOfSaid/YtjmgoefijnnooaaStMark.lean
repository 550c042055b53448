/- Counters written into states: contracts. Condition: lists are no longer than the law lets through. -/
import Derived.Test.YtjmgoefijnnooaaStatL
namespace Vg
open Go Go.Proofs
/-- counters that the first i states take -/
def offS (l : List V.State) (i : Nat) : Nat := ((l.take i).map fun s => 4 + cntS s).sum
theorem offS_step {l : List V.State} {i : Nat} (h : (i : Int) < l.length) : offS l (i + 1) = offS l i + (4 + cntS (l.getD i K.states.dflt)) := by
  have h' : i < l.length := by omega
  simp only [offS, List.take_succ_eq_append_getElem h', List.map_append, List.sum_append, List.map_cons, List.map_nil, List.sum_cons, List.sum_nil, List.getD_eq_getElem?_getD, List.getElem?_eq_getElem h', Option.getD_some, Nat.add_zero]
theorem offS_le (l : List V.State) (i : Nat) : offS l i ≤ offS l l.length := by
  unfold offS
  rw [List.take_length]
  conv => rhs; rw [← List.take_append_drop i l]
  simp only [List.map_append, List.sum_append]
  exact Nat.le_add_right _ _
def stM (k : Int) (s : V.State) : V.State :=
  ⟨k, mkI (k + 1) s.regs.length, mkI (k + 1 + (s.regs.length : Nat)) s.mem.length, mkI (k + 1 + (s.regs.length : Nat) + (s.mem.length : Nat)) s.stack.length, k + 1 + (s.regs.length : Nat) + (s.mem.length : Nat) + (s.stack.length : Nat),
    mkI (k + 1 + (s.regs.length : Nat) + (s.mem.length : Nat) + (s.stack.length : Nat) + 1) s.out.length, k + 1 + (s.regs.length : Nat) + (s.mem.length : Nat) + (s.stack.length : Nat) + 1 + (s.out.length : Nat),
    k + 1 + (s.regs.length : Nat) + (s.mem.length : Nat) + (s.stack.length : Nat) + 1 + (s.out.length : Nat) + 1⟩
def mkSS (k : Int) (l : List V.State) (n : Nat) : List V.State := (List.range n).map fun i => stM (k + (offS l i : Nat)) (l.getD i K.states.dflt)
theorem mkSS_len (k : Int) (l : List V.State) (n : Nat) : (mkSS k l n).length = n := by simp [mkSS]
theorem mkSS_get {k : Int} {l : List V.State} {n i : Nat} (h : (i : Int) < n) : (mkSS k l n).getD i K.states.dflt = stM (k + (offS l i : Nat)) (l.getD i K.states.dflt) := by
  have h' : i < n := by omega
  simp [mkSS, List.getD_eq_getElem?_getD, h']
theorem mkSS_mid {k : Int} {l : List V.State} {i : Nat} : (mkSS k l i ++ l.drop i).getD i K.states.dflt = l.getD i K.states.dflt := by
  rw [List.getD_eq_getElem?_getD, List.getElem?_append_right (by rw [mkSS_len]; exact Nat.le_refl i), mkSS_len, Nat.sub_self, List.getElem?_drop, Nat.add_zero, ← List.getD_eq_getElem?_getD]
theorem lt_of_midS {k : Int} {l : List V.State} {i : Nat} (h : (i : Int) < ((mkSS k l i ++ l.drop i).length : Nat)) : (i : Int) < l.length := by
  simp only [mkSS_len, List.length_append, List.length_drop] at h; omega
theorem midS_lt {k : Int} {l : List V.State} {i : Nat} (h : (i : Int) < l.length) : i < (mkSS k l i ++ l.drop i).length := by
  simp only [mkSS_len, List.length_append, List.length_drop]; omega
theorem lt_of_mkSS {k : Int} {l : List V.State} {n i : Nat} (h : (i : Int) < ((mkSS k l n).length : Nat)) : (i : Int) < n := by rwa [mkSS_len] at h
theorem mkSS_step {k : Int} {l : List V.State} {i : Nat} (h : (i : Int) < l.length) : (mkSS k l i ++ l.drop i).set i (stM (k + (offS l i : Nat)) (l.getD i K.states.dflt)) = mkSS k l (i + 1) ++ l.drop (i + 1) := by
  have h' : i < l.length := by omega
  rw [List.set_append_right _ _ (by simp [mkSS])]
  simp only [mkSS, List.length_map, List.length_range, Nat.sub_self, List.drop_eq_getElem_cons h', List.set_cons_zero, List.range_succ, List.map_append, List.map_cons, List.map_nil, List.append_assoc, List.cons_append, List.nil_append]
theorem mkSS_end {k : Int} {l : List V.State} {i : Nat} (h : ¬ (i : Int) < ((mkSS k l i ++ l.drop i).length : Nat)) (hi : i ≤ l.length) : mkSS k l i ++ l.drop i = mkSS k l l.length := by
  simp only [mkSS_len, List.length_append, List.length_drop] at h
  have : i = l.length := by omega
  subst this; simp
theorem offS_end {k : Int} {l : List V.State} {i : Nat} (h : ¬ (i : Int) < ((mkSS k l i ++ l.drop i).length : Nat)) (hi : i ≤ l.length) : offS l i = offS l l.length := by
  simp only [mkSS_len, List.length_append, List.length_drop] at h
  rw [show i = l.length from by omega]
theorem offS_endI {k : Int} {l : List V.State} {i : Nat} (h : ¬ (i : Int) < ((mkSS k l i ++ l.drop i).length : Nat)) (hi : i ≤ l.length) : k + ((offS l i : Nat) : Int) = k + ((offS l l.length : Nat) : Int) := by rw [offS_end h hi]
theorem offS_0 (k : Int) (l : List V.State) : k + ((offS l 0 : Nat) : Int) = k := by simp [offS]
theorem offS_cnt {l : List V.State} {i : Nat} (h : (i : Int) < l.length) (hl : offS l l.length ≤ 4194304) : offS l i + (4 + cntS (l.getD i K.states.dflt)) ≤ 4194304 := by
  have h1 := offS_step h
  have h2 := offS_le l (i + 1)
  omega
/-- the counters stay small -/
theorem stW {k : Int} {l : List V.State} {i : Nat} (h : (i : Int) < l.length) (h0 : 0 ≤ k) (h1 : k ≤ 8589934592) (hl : offS l l.length ≤ 4194304) :
    IntKind.i64.wrap (k + (offS l i : Nat) + 1) = k + (offS l i : Nat) + 1 ∧
    IntKind.i64.wrap (k + (offS l i : Nat) + 1 + ((l.getD i K.states.dflt).regs.length : Nat) + ((l.getD i K.states.dflt).mem.length : Nat) + ((l.getD i K.states.dflt).stack.length : Nat) + 1) = k + (offS l i : Nat) + 1 + ((l.getD i K.states.dflt).regs.length : Nat) + ((l.getD i K.states.dflt).mem.length : Nat) + ((l.getD i K.states.dflt).stack.length : Nat) + 1 ∧
    IntKind.i64.wrap (k + (offS l i : Nat) + 1 + ((l.getD i K.states.dflt).regs.length : Nat) + ((l.getD i K.states.dflt).mem.length : Nat) + ((l.getD i K.states.dflt).stack.length : Nat) + 1 + ((l.getD i K.states.dflt).out.length : Nat) + 1) = k + (offS l i : Nat) + 1 + ((l.getD i K.states.dflt).regs.length : Nat) + ((l.getD i K.states.dflt).mem.length : Nat) + ((l.getD i K.states.dflt).stack.length : Nat) + 1 + ((l.getD i K.states.dflt).out.length : Nat) + 1 ∧
    IntKind.i64.wrap (k + (offS l i : Nat) + 1 + ((l.getD i K.states.dflt).regs.length : Nat) + ((l.getD i K.states.dflt).mem.length : Nat) + ((l.getD i K.states.dflt).stack.length : Nat) + 1 + ((l.getD i K.states.dflt).out.length : Nat) + 1 + 1) = k + (offS l (i + 1) : Nat) := by
  have hc := offS_cnt h hl
  have hs := offS_step h
  unfold cntS at hc hs
  refine ⟨wr (by omega) (by omega), wr (by omega) (by omega), wr (by omega) (by omega), ?_⟩
  rw [wr (by omega) (by omega)]; omega
theorem stB {k : Int} {l : List V.State} {i : Nat} (h : (i : Int) < l.length) (h0 : 0 ≤ k) (h1 : k ≤ 8589934592) (hl : offS l l.length ≤ 4194304) :
    k + (offS l i : Nat) + 4 + ((l.getD i K.states.dflt).regs.length : Nat) + ((l.getD i K.states.dflt).mem.length : Nat) + ((l.getD i K.states.dflt).stack.length : Nat) + ((l.getD i K.states.dflt).out.length : Nat) ≤ 8594128896 := by
  have hc := offS_cnt h hl
  unfold cntS at hc
  omega
set_option maxHeartbeats 4000000 in
set_option maxRecDepth 100000 in
theorem g_markStateS (l : List V.State) (k : Int) (h0 : 0 ≤ k) (h1 : k ≤ 8589934592) (hl : offS l l.length ≤ 4194304) : CallsG Try.prog 34 [.row 0, .dat (.i k)] [.tree 72 .states l] 1 (fun res B => res = .dat (.i (k + (offS l l.length : Nat))) ∧ B = [.tree 72 .states (mkSS k l l.length)]) := by
  refine CallsG.of_awp tauOk mixOk Try.func34 rfl rfl rfl ?_
  conv => whnf
  repeat' (first
    | ((with_reducible refine Alt.l ?_); conv => whnf)
    | ((with_reducible refine fun (K1 : AX → AState → Prop) hK => ?_); conv => whnf)
    | ((with_reducible show K1 _ _); subst hK; conv => whnf)
    | (with_reducible exact rfl)
    | ((with_reducible refine sp_T ?_); conv => whnf)
    | ((with_reducible refine sp_F ?_); conv => whnf)
    | ((with_reducible refine sp_T' ?_); conv => whnf)
    | ((with_reducible refine sp_F' ?_); conv => whnf)
    | ((with_reducible refine sp_dF ?_ ?_); decide; conv => whnf)
    | ((with_reducible refine sp_dT ?_ ?_); decide; conv => whnf)
    | ((with_reducible refine sp_d (fun h => ?_) (fun h => ?_)) <;> first | contradiction | (subst h; conv => whnf) | (conv => whnf))
    | ((with_reducible refine sp_d' (fun h => ?_) (fun h => ?_)) <;> first | contradiction | (subst h; conv => whnf) | (conv => whnf))
    | ((with_reducible refine sp_eF ?_ ?_); decide; conv => whnf)
    | ((with_reducible refine sp_eT ?_); conv => whnf)
    | ((with_reducible refine sp_e (fun h => ?_) (fun h => ?_)) <;> first | contradiction | (subst h; conv => whnf) | (conv => whnf))
    | ((with_reducible refine sp_e' (fun h => ?_) (fun h => ?_)) <;> first | contradiction | (subst h; conv => whnf) | (conv => whnf))
    | ((with_reducible refine sp_n (fun h => ?_) (fun h => ?_)) <;> first | contradiction | (subst h; conv => whnf) | (conv => whnf))
    | ((with_reducible refine sp_n' (fun h => ?_) (fun h => ?_)) <;> first | contradiction | (subst h; conv => whnf) | (conv => whnf))
    | ((with_reducible refine sp_nb (fun h => ?_) (fun h => ?_)) <;> first | contradiction | (exact Bool.noConfusion (Eq.trans (Eq.symm h) (show _ = true by assumption))) | (exact Bool.noConfusion (Eq.trans (Eq.symm (show _ = false by assumption)) h)) | (conv => whnf))
    | ((with_reducible refine sp_nb' (fun h => ?_) (fun h => ?_)) <;> first | contradiction | (exact Bool.noConfusion (Eq.trans (Eq.symm h) (show _ = true by assumption))) | (exact Bool.noConfusion (Eq.trans (Eq.symm (show _ = false by assumption)) h)) | (conv => whnf))
    | ((with_reducible refine sp_b (fun h => ?_) (fun h => ?_)) <;> first | contradiction | (exact Bool.noConfusion (Eq.trans (Eq.symm h) (show _ = true by assumption))) | (exact Bool.noConfusion (Eq.trans (Eq.symm (show _ = false by assumption)) h)) | (conv => whnf))
    | ((with_reducible refine sp_b' (fun h => ?_) (fun h => ?_)) <;> first | contradiction | (exact Bool.noConfusion (Eq.trans (Eq.symm h) (show _ = true by assumption))) | (exact Bool.noConfusion (Eq.trans (Eq.symm (show _ = false by assumption)) h)) | (conv => whnf))
    | (refine ⟨(rfl : nodupB _ = true), rfl, ?_⟩; conv => whnf)
    | (with_reducible refine bnd2 ?_ ?_)
    | (with_reducible refine bnd2' ?_ ?_)
    | (with_reducible refine bndN ?_ ?_)
    | ((with_reducible refine and_of ?_ ?_); conv => whnf)
    | (refine Exists.intro ({i : Nat // i ≤ l.length}) (Exists.intro (fun ⟨i, hi⟩ => mkS Try.f34.ntmps [(0, .row 900000), (1, .dat (.i (k + (offS l i : Nat)))), (5, .dat (.i i))] [(900000, .tree 72 .states (mkSS k l i ++ l.drop i))]) (Exists.intro (fun ⟨i, hi⟩ => l.length - i) (Exists.intro ⟨0, Nat.zero_le _⟩ (And.intro (SubP.sub (σ := [(900000, some 900000)]) ⟨⟨rfl, rfl, rfl⟩, ⟨rfl, (wk_dat ?_), (wk_dat ?_), trivial⟩, ⟨⟨rfl, ?_⟩, trivial⟩⟩) (fun ⟨i, hi⟩ => ?_))))); rotate_right; conv => whnf)
    | (refine Exists.intro ⟨i + 1, ?_⟩ (And.intro ?_ (SubP.sub (σ := [(900000, some 900000)]) ⟨⟨rfl, rfl, rfl⟩, ⟨rfl, (wk_dat ?_), (wk_dat ?_), trivial⟩, ⟨⟨rfl, ?_⟩, trivial⟩⟩)))
    | ((with_reducible refine gcI (g := 28) ?_); refine ⟨_, _, g_markIntS (h0 := ?_) (h1 := ?_) (hl := ?_) .., fun res B hRB => ?_⟩; rotate_right; obtain ⟨rfl, rfl⟩ := hRB; conv => whnf)
    | ((with_reducible refine mcI (g := 28) ?_); refine ⟨_, g_markIntS (h0 := ?_) (h1 := ?_) (hl := ?_) .., fun res B hRB => ?_⟩; rotate_right; obtain ⟨rfl, rfl⟩ := hRB; conv => whnf)
    | ((with_reducible refine pcI (g := 28) ?_); refine ⟨_, g_markIntS0 .., rfl, ?_⟩; rotate_right; conv => whnf)
    | ((with_reducible show Exists _); refine Exists.intro _ (And.intro (g_markIntS0 ..) (And.intro rfl ?_)); rotate_right; conv => whnf)
    | ((with_reducible show awpOps _ _ _ _ _ _); conv => whnf)
    | (intro h; conv => whnf))
  all_goals (repeat (clear hK; clear K1))
  all_goals first
    | exact tree_fin (mkSS_end h hi)
    | exact congrArg (fun x => AV.dat (Dat.i x)) (offS_endI h hi)
    | exact congrArg Dat.i (offS_0 k l)
    | exact sig_fin rfl
    | exact congrArg (Dat.int .i64) (wrap_succ (by with_reducible assumption) (by with_reducible assumption)).symm
    | (have hb := lt_of_midS (k := k) (l := l) (i := i) (by with_reducible assumption); omega)
    | (have hb := lt_of_midS (k := k) (l := l) (i := i) (by with_reducible assumption); dsimp only; omega)
    | (have hb := lt_of_midS (k := k) (l := l) (i := i) (by with_reducible assumption); have hq := midS_lt (k := k) hb; have hw := stW hb h0 h1 hl; have hB := stB hb h0 h1 hl; have hc := offS_cnt hb hl; unfold cntS at hc; subst_vars; simp only [Int.toNat_natCast, List.set_set, List.length_set, set_getD hq, mkSS_mid, hw.1, hw.2.1, hw.2.2.1, hw.2.2.2]; done)
    | (have hb := lt_of_midS (k := k) (l := l) (i := i) (by with_reducible assumption); have hq := midS_lt (k := k) hb; have hw := stW hb h0 h1 hl; have hB := stB hb h0 h1 hl; have hc := offS_cnt hb hl; unfold cntS at hc; subst_vars; simp only [Int.toNat_natCast, List.set_set, List.length_set, set_getD hq, mkSS_mid, hw.1, hw.2.1, hw.2.2.1, hw.2.2.2]; omega)
    | (have hb := lt_of_midS (k := k) (l := l) (i := i) (by with_reducible assumption); have hq := midS_lt (k := k) hb; have hw := stW hb h0 h1 hl; have hB := stB hb h0 h1 hl; have hc := offS_cnt hb hl; unfold cntS at hc; subst_vars; simp only [Int.toNat_natCast, List.set_set, List.length_set, set_getD hq, mkSS_mid, hw.1, hw.2.1, hw.2.2.1, hw.2.2.2]; exact hq)
    | (have hb := lt_of_midS (k := k) (l := l) (i := i) (by with_reducible assumption); have hq := midS_lt (k := k) hb; have hw := stW hb h0 h1 hl; have hB := stB hb h0 h1 hl; have hc := offS_cnt hb hl; unfold cntS at hc; subst_vars; simp only [Int.toNat_natCast, List.set_set, List.length_set, set_getD hq, mkSS_mid, hw.1, hw.2.1, hw.2.2.1, hw.2.2.2]; exact sig_fin (mkSS_step hb).symm)
    | exact (rfl : Dat.i ((0 : Nat) : Int) = Dat.int .i64 0)
    | skip
theorem lh_heldIntS (c : List Int) (k : Int) (hc : c = mkI k c.length) (h0 : 0 ≤ k) (h1 : k ≤ 1099511627776) (hl : c.length ≤ 4194304) : CallsV Try.prog 29 [.dat (.seq .ints c), .dat (.i k)] (.dat (.i (k + (c.length : Nat)))) := by
  rw [hc, mkI_len]; exact l_heldIntS k c.length h0 h1 hl
theorem heldS_end {k : Int} {l : List V.State} {i : Nat} (h : ¬ (i : Int) < ((mkSS k l l.length).length : Nat)) (hi : i ≤ l.length) : k + ((offS l l.length : Nat) : Int) = k + ((offS l i : Nat) : Int) := by
  rw [mkSS_len] at h; rw [show i = l.length from by omega]
set_option maxHeartbeats 4000000 in
set_option maxRecDepth 100000 in
theorem l_heldStateS (l : List V.State) (k : Int) (h0 : 0 ≤ k) (h1 : k ≤ 8589934592) (hl : offS l l.length ≤ 4194304) : CallsV Try.prog 35 [.dat (.seq .states (mkSS k l l.length)), .dat (.i k)] (.dat (.i (k + (offS l l.length : Nat)))) := by
  refine CallsV.of_awp tauOk mixOk Try.func35 rfl rfl rfl ?_
  conv => whnf
  repeat' (first
    | ((with_reducible refine Alt.l ?_); conv => whnf)
    | ((with_reducible refine fun (K1 : AX → AState → Prop) hK => ?_); conv => whnf)
    | ((with_reducible show K1 _ _); subst hK; conv => whnf)
    | (with_reducible exact rfl)
    | ((with_reducible refine sp_T ?_); conv => whnf)
    | ((with_reducible refine sp_F ?_); conv => whnf)
    | ((with_reducible refine sp_T' ?_); conv => whnf)
    | ((with_reducible refine sp_F' ?_); conv => whnf)
    | ((with_reducible refine sp_dF ?_ ?_); decide; conv => whnf)
    | ((with_reducible refine sp_dT ?_ ?_); decide; conv => whnf)
    | ((with_reducible refine sp_d (fun h => ?_) (fun h => ?_)) <;> first | contradiction | (subst h; conv => whnf) | (conv => whnf))
    | ((with_reducible refine sp_d' (fun h => ?_) (fun h => ?_)) <;> first | contradiction | (subst h; conv => whnf) | (conv => whnf))
    | ((with_reducible refine sp_eF ?_ ?_); decide; conv => whnf)
    | ((with_reducible refine sp_eT ?_); conv => whnf)
    | ((with_reducible refine sp_e (fun h => ?_) (fun h => ?_)) <;> first | contradiction | (subst h; conv => whnf) | (conv => whnf))
    | ((with_reducible refine sp_e' (fun h => ?_) (fun h => ?_)) <;> first | contradiction | (subst h; conv => whnf) | (conv => whnf))
    | ((with_reducible refine sp_n (fun h => ?_) (fun h => ?_)) <;> first | contradiction | (subst h; conv => whnf) | (conv => whnf))
    | ((with_reducible refine sp_n' (fun h => ?_) (fun h => ?_)) <;> first | contradiction | (subst h; conv => whnf) | (conv => whnf))
    | ((with_reducible refine sp_nb (fun h => ?_) (fun h => ?_)) <;> first | contradiction | (exact Bool.noConfusion (Eq.trans (Eq.symm h) (show _ = true by assumption))) | (exact Bool.noConfusion (Eq.trans (Eq.symm (show _ = false by assumption)) h)) | (conv => whnf))
    | ((with_reducible refine sp_nb' (fun h => ?_) (fun h => ?_)) <;> first | contradiction | (exact Bool.noConfusion (Eq.trans (Eq.symm h) (show _ = true by assumption))) | (exact Bool.noConfusion (Eq.trans (Eq.symm (show _ = false by assumption)) h)) | (conv => whnf))
    | ((with_reducible refine sp_b (fun h => ?_) (fun h => ?_)) <;> first | contradiction | (exact Bool.noConfusion (Eq.trans (Eq.symm h) (show _ = true by assumption))) | (exact Bool.noConfusion (Eq.trans (Eq.symm (show _ = false by assumption)) h)) | (conv => whnf))
    | ((with_reducible refine sp_b' (fun h => ?_) (fun h => ?_)) <;> first | contradiction | (exact Bool.noConfusion (Eq.trans (Eq.symm h) (show _ = true by assumption))) | (exact Bool.noConfusion (Eq.trans (Eq.symm (show _ = false by assumption)) h)) | (conv => whnf))
    | (refine ⟨(rfl : nodupB _ = true), rfl, ?_⟩; conv => whnf)
    | (with_reducible refine bnd2 ?_ ?_)
    | (with_reducible refine bnd2' ?_ ?_)
    | (with_reducible refine bndN ?_ ?_)
    | ((with_reducible refine and_of ?_ ?_); conv => whnf)
    | (refine Exists.intro ({i : Nat // i ≤ l.length}) (Exists.intro (fun ⟨i, hi⟩ => mkS Try.f35.ntmps [(0, .dat (.seq .states (mkSS k l l.length))), (1, .dat (.i (k + (offS l i : Nat)))), (5, .dat (.i i))] []) (Exists.intro (fun ⟨i, hi⟩ => l.length - i) (Exists.intro ⟨0, Nat.zero_le _⟩ (And.intro (SubP.sub (σ := []) ⟨⟨rfl, rfl, rfl⟩, ⟨(wk_dat ?_), (wk_dat ?_), (wk_dat ?_), trivial⟩, trivial⟩) (fun ⟨i, hi⟩ => ?_))))); rotate_right; conv => whnf)
    | (refine Exists.intro ⟨i + 1, ?_⟩ (And.intro ?_ (SubP.sub (σ := []) ⟨⟨rfl, rfl, rfl⟩, ⟨(wk_dat ?_), (wk_dat ?_), (wk_dat ?_), trivial⟩, trivial⟩)))
    | ((with_reducible show Exists _); refine Exists.intro _ (And.intro (l_heldIntS (h0 := ?_) (h1 := ?_) (hl := ?_) ..) (And.intro rfl ?_)); rotate_right; conv => whnf)
    | ((with_reducible refine pcI (g := 29) ?_); refine ⟨_, lk_heldIntS0 .., rfl, ?_⟩; rotate_right; conv => whnf)
    | ((with_reducible show Exists _); refine Exists.intro _ (And.intro (lk_heldIntS0 ..) (And.intro rfl ?_)); rotate_right; conv => whnf)
    | ((with_reducible refine pcI (g := 29) ?_); refine ⟨_, lh_heldIntS (hc := ?_) (h0 := ?_) (h1 := ?_) (hl := ?_) .., rfl, ?_⟩; rotate_right; conv => whnf)
    | ((with_reducible show Exists _); refine Exists.intro _ (And.intro (lh_heldIntS (hc := ?_) (h0 := ?_) (h1 := ?_) (hl := ?_) ..) (And.intro rfl ?_)); rotate_right; conv => whnf)
    | ((with_reducible show awpOps _ _ _ _ _ _); conv => whnf)
    | (intro h; conv => whnf))
  all_goals (repeat (clear hK; clear K1))
  all_goals first
    | exact congrArg Dat.i (offS_0 k l)
    | exact congrArg Dat.i (heldS_end h hi)
    | exact congrArg (Dat.int .i64) (wrap_succ (by with_reducible assumption) (by with_reducible assumption)).symm
    | exact (rfl : Dat.i ((0 : Nat) : Int) = Dat.int .i64 0)
    | (have hb := lt_of_mkSS (k := k) (l := l) (n := l.length) (i := i) (by with_reducible assumption); omega)
    | (have hb := lt_of_mkSS (k := k) (l := l) (n := l.length) (i := i) (by with_reducible assumption); dsimp only; omega)
    | (have hb := lt_of_mkSS (k := k) (l := l) (n := l.length) (i := i) (by with_reducible assumption); have hw := stW hb h0 h1 hl; have hB := stB hb h0 h1 hl; have hc := offS_cnt hb hl; unfold cntS at hc; have hg := mkSS_get (k := k) (l := l) hb; simp only [Int.toNat_natCast, hg, stM, mkI_len, hw.1, hw.2.1, hw.2.2.1, hw.2.2.2]; done)
    | (have hb := lt_of_mkSS (k := k) (l := l) (n := l.length) (i := i) (by with_reducible assumption); have hw := stW hb h0 h1 hl; have hB := stB hb h0 h1 hl; have hc := offS_cnt hb hl; unfold cntS at hc; have hg := mkSS_get (k := k) (l := l) hb; simp only [Int.toNat_natCast, hg, stM, mkI_len, hw.1, hw.2.1, hw.2.2.1, hw.2.2.2]; omega)
    | (have hb := lt_of_mkSS (k := k) (l := l) (n := l.length) (i := i) (by with_reducible assumption); have hw := stW hb h0 h1 hl; have hB := stB hb h0 h1 hl; have hc := offS_cnt hb hl; unfold cntS at hc; have hg := mkSS_get (k := k) (l := l) hb; exfalso; simp only [Int.toNat_natCast, hg, stM, mkI_len, hw.1, hw.2.1, hw.2.2.1, hw.2.2.2] at h; omega)
    | (have hb := lt_of_mkSS (k := k) (l := l) (n := l.length) (i := i) (by with_reducible assumption); have hw := stW hb h0 h1 hl; have hB := stB hb h0 h1 hl; have hc := offS_cnt hb hl; unfold cntS at hc; have hg := mkSS_get (k := k) (l := l) hb; exfalso; simp only [Int.toNat_natCast, hg, stM, mkI_len, hw.1, hw.2.1, hw.2.2.1, hw.2.2.2] at h; first | exact h rfl | exact h trivial)
    | (have hb := lt_of_mkSS (k := k) (l := l) (n := l.length) (i := i) (by with_reducible assumption); have hw := stW hb h0 h1 hl; have hB := stB hb h0 h1 hl; have hc := offS_cnt hb hl; unfold cntS at hc; have hg := mkSS_get (k := k) (l := l) hb; exfalso; simp only [Int.toNat_natCast, hg, stM, mkI_len, hw.1, hw.2.1, hw.2.2.1, hw.2.2.2] at h; done)
    | (with_reducible rfl)
    | (with_reducible assumption)
    | skip
end Vg
