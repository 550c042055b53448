/- Marks: contracts of the law's helpers that write counters into memory and look for them. Condition: counters stay small. -/
import Derived.Test.YtahdmongckgjcaaGreatDoorBase
namespace Vg
open Go Go.Proofs

def mkI (k : Int) (n : Nat) : List Int := (List.range n).map fun i => k + (i : Nat)
theorem mkI_len (k : Int) (n : Nat) : (mkI k n).length = n := by simp [mkI]
theorem mkI_step {k : Int} {l : List Int} {i : Nat} (h : (i : Int) < l.length) : (mkI k i ++ l.drop i).set i (k + (i : Nat)) = mkI k (i + 1) ++ l.drop (i + 1) := by
  have h' : i < l.length := by omega
  rw [List.set_append_right _ _ (by simp [mkI])]
  simp only [mkI, List.length_map, List.length_range, Nat.sub_self, List.drop_eq_getElem_cons h', List.set_cons_zero, List.range_succ, List.map_append, List.map_cons, List.map_nil, List.append_assoc, List.cons_append, List.nil_append]
theorem mkI_end {k : Int} {l : List Int} {i : Nat} (h : ¬ (i : Int) < l.length) (hi : i ≤ l.length) : mkI k i ++ l.drop i = mkI k l.length := by
  have : i = l.length := by omega
  subst this; simp
theorem mkI_get {k : Int} {n i : Nat} (d : Int) (h : (i : Int) < n) : (mkI k n).getD i d = k + (i : Nat) := by
  have h' : i < n := by omega
  simp [mkI, List.getD_eq_getElem?_getD, h']
theorem add_succ {k : Int} {i : Nat} {n : Nat} (h : (i : Int) < n) (h0 : 0 ≤ k) (h1 : k ≤ 1099511627776) (hn : n ≤ 4194304) : IntKind.i64.wrap (k + (i : Nat) + 1) = k + ((i + 1 : Nat) : Int) := by
  rw [wrap_id] <;> omega

set_option maxRecDepth 100000 in
theorem g_markIntS (l : List Int) (k : Int) (h0 : 0 ≤ k) (h1 : k ≤ 1099511627776) (hl : l.length ≤ 4194304) : CallsG Tryz.prog 35 [.row 0, .dat (.i k)] [.row 3 .ints l false] 1 (fun res B => res = .dat (.i (k + l.length)) ∧ B = [.row 3 .ints (mkI k l.length) false]) := by
  refine CallsG.of_awp tauOk mixOk Tryz.func35 rfl rfl rfl ?_
  conv => whnf
  repeat' (first
    | ((with_reducible refine fun (K1 : AX → AState → Prop) hK => ?_); conv => whnf)
    | ((with_reducible show K1 _ _); subst hK; conv => whnf)
    | (with_reducible exact rfl)
    | ((with_reducible refine sp_d (fun h => ?_) (fun h => ?_)) <;> first | contradiction | (subst h; conv => whnf) | (conv => whnf))
    | (refine ⟨(rfl : nodupB _ = true), rfl, ?_⟩; conv => whnf)
    | (with_reducible refine bnd2 ?_ ?_)
    | ((with_reducible refine and_of ?_ ?_); conv => whnf)
    | (refine Exists.intro ({i : Nat // i ≤ l.length}) (Exists.intro (fun ⟨i, hi⟩ => mkS Tryz.f35.ntmps [(0, .row 900000), (1, .dat (.i (k + (i : Nat)))), (5, .dat (.i i))] [(900000, .row 3 .ints (mkI k i ++ l.drop i) false)]) (Exists.intro (fun ⟨i, hi⟩ => l.length - i) (Exists.intro ⟨0, Nat.zero_le _⟩ (And.intro (SubP.sub (σ := [(900000, some 900000)]) ⟨⟨rfl, rfl, rfl⟩, ⟨rfl, (wk_dat ?_), (wk_dat ?_), trivial⟩, ⟨⟨⟨rfl, rfl⟩, ?_⟩, trivial⟩⟩) (fun ⟨i, hi⟩ => ?_))))); rotate_right; conv => whnf)
    | (refine Exists.intro ⟨i + 1, ?_⟩ (And.intro ?_ (SubP.sub (σ := [(900000, some 900000)]) ⟨⟨rfl, rfl, rfl⟩, ⟨rfl, (wk_dat ?_), (wk_dat ?_), trivial⟩, ⟨⟨⟨rfl, rfl⟩, ?_⟩, trivial⟩⟩)))
    | ((with_reducible show awpOps _ _ _ _ _ _); conv => whnf)
    | (intro h; conv => whnf))
  all_goals (repeat (clear hK; clear K1))
  all_goals first
    | rfl
    | assumption
    | exact Bool.noConfusion (h.symm.trans hp)
    | omega
    | (dsimp only; omega)
    | exact congrArg (Dat.int .i64) (wrap_succ (by assumption) (by assumption)).symm
    | (simp only [mkI_len, List.length_append, List.length_drop] at h; first | omega | (dsimp only; omega))
    | exact congrArg (Dat.int .i64) (add_succ (n := l.length) (by simp only [mkI_len, List.length_append, List.length_drop] at h; omega) h0 h1 hl).symm
    | exact sig_fin (mkI_step (by simp only [mkI_len, List.length_append, List.length_drop] at h; omega)).symm
    | exact row_fin (mkI_end (by simp only [mkI_len, List.length_append, List.length_drop] at h; omega) hi)
    | exact congrArg (fun x => AV.dat (Dat.i x)) (by simp only [mkI_len, List.length_append, List.length_drop] at h; omega)
    | exact congrArg Dat.i (by simp)
set_option maxRecDepth 100000 in
theorem l_heldIntS (k : Int) (n : Nat) (h0 : 0 ≤ k) (h1 : k ≤ 1099511627776) (hl : n ≤ 4194304) : CallsV Tryz.prog 79 [.dat (.seq .ints (mkI k n)), .dat (.i k)] (.dat (.i (k + n))) := by
  refine CallsV.of_awp tauOk mixOk Tryz.func79 rfl rfl rfl ?_
  conv => whnf
  repeat' (first
    | ((with_reducible refine fun (K1 : AX → AState → Prop) hK => ?_); conv => whnf)
    | ((with_reducible show K1 _ _); subst hK; conv => whnf)
    | (with_reducible exact rfl)
    | ((with_reducible refine sp_d (fun h => ?_) (fun h => ?_)) <;> first | contradiction | (subst h; conv => whnf) | (conv => whnf))
    | ((with_reducible refine sp_n (fun h => ?_) (fun h => ?_)) <;> first | contradiction | (subst h; conv => whnf) | (conv => whnf))
    | (refine ⟨(rfl : nodupB _ = true), rfl, ?_⟩; conv => whnf)
    | (with_reducible refine bnd2 ?_ ?_)
    | ((with_reducible refine and_of ?_ ?_); conv => whnf)
    | (refine Exists.intro ({i : Nat // i ≤ n}) (Exists.intro (fun ⟨i, hi⟩ => mkS Tryz.f79.ntmps [(0, .dat (.seq .ints (mkI k n))), (1, .dat (.i (k + (i : Nat)))), (5, .dat (.i i))] []) (Exists.intro (fun ⟨i, hi⟩ => n - i) (Exists.intro ⟨0, Nat.zero_le _⟩ (And.intro (SubP.sub (σ := []) ⟨⟨rfl, rfl, rfl⟩, ⟨(wk_dat ?_), (wk_dat ?_), (wk_dat ?_), trivial⟩, trivial⟩) (fun ⟨i, hi⟩ => ?_))))); rotate_right; conv => whnf)
    | (refine Exists.intro ⟨i + 1, ?_⟩ (And.intro ?_ (SubP.sub (σ := []) ⟨⟨rfl, rfl, rfl⟩, ⟨(wk_dat ?_), (wk_dat ?_), (wk_dat ?_), trivial⟩, trivial⟩)))
    | ((with_reducible show awpOps _ _ _ _ _ _); conv => whnf)
    | (intro h; conv => whnf))
  all_goals (repeat (clear hK; clear K1))
  all_goals first
    | rfl
    | assumption
    | exact Bool.noConfusion (h.symm.trans hp)
    | omega
    | (dsimp only; omega)
    | exact congrArg (Dat.int .i64) (wrap_succ (by assumption) (by assumption)).symm
    | (rename_i hb; rw [mkI_len] at hb; first | omega | (dsimp only; omega) | exact congrArg (Dat.int .i64) (add_succ (n := n) (by omega) h0 h1 hl).symm | exact absurd (mkI_get _ (by omega)) h)
    | (rw [mkI_len] at h; exact congrArg Dat.i (by omega))
    | exact congrArg Dat.i (by simp)
theorem wr {k : Int} (h0 : 0 ≤ k) (h1 : k ≤ 2199023255552) : IntKind.i64.wrap (k + 1) = k + 1 := wrap_id (by omega) (by omega)
def mkQ (k : Int) (n : Nat) : List V.Ins := (List.range n).map fun i => ⟨k + 4 * (i : Nat), k + 4 * (i : Nat) + 1, k + 4 * (i : Nat) + 1 + 1, k + 4 * (i : Nat) + 1 + 1 + 1⟩
theorem mkQ_len (k : Int) (n : Nat) : (mkQ k n).length = n := by simp [mkQ]
theorem set_getD {α : Type} {l : List α} {i : Nat} {a d : α} (h : i < l.length) : (l.set i a).getD i d = a := by
  simp [List.getD_eq_getElem?_getD, h]
theorem mkQ_step {k : Int} {l : List V.Ins} {i : Nat} (h : (i : Int) < l.length) : (mkQ k i ++ l.drop i).set i ⟨k + 4 * (i : Nat), k + 4 * (i : Nat) + 1, k + 4 * (i : Nat) + 1 + 1, k + 4 * (i : Nat) + 1 + 1 + 1⟩ = mkQ k (i + 1) ++ l.drop (i + 1) := by
  have h' : i < l.length := by omega
  rw [List.set_append_right _ _ (by simp [mkQ])]
  simp only [mkQ, List.length_map, List.length_range, Nat.sub_self, List.drop_eq_getElem_cons h', List.set_cons_zero, List.range_succ, List.map_append, List.map_cons, List.map_nil, List.append_assoc, List.cons_append, List.nil_append]
theorem mkQ_step4 {k k1 k2 k3 : Int} {l : List V.Ins} {i : Nat} (h : (i : Int) < l.length) (h1 : k1 = k + 4 * (i : Nat) + 1) (h2 : k2 = k + 4 * (i : Nat) + 1 + 1) (h3 : k3 = k + 4 * (i : Nat) + 1 + 1 + 1)
    {L1 L2 L3 L4 : List V.Ins} (e4 : L4 = L3.set (i : Int).toNat ⟨(L3.getD (i : Int).toNat K.inss.dflt).op, (L3.getD (i : Int).toNat K.inss.dflt).a, (L3.getD (i : Int).toNat K.inss.dflt).b, k3⟩)
    (e3 : L3 = L2.set (i : Int).toNat ⟨(L2.getD (i : Int).toNat K.inss.dflt).op, (L2.getD (i : Int).toNat K.inss.dflt).a, k2, (L2.getD (i : Int).toNat K.inss.dflt).c⟩)
    (e2 : L2 = L1.set (i : Int).toNat ⟨(L1.getD (i : Int).toNat K.inss.dflt).op, k1, (L1.getD (i : Int).toNat K.inss.dflt).b, (L1.getD (i : Int).toNat K.inss.dflt).c⟩)
    (e1 : L1 = (mkQ k i ++ l.drop i).set (i : Int).toNat ⟨k + 4 * (i : Nat), ((mkQ k i ++ l.drop i).getD (i : Int).toNat K.inss.dflt).a, ((mkQ k i ++ l.drop i).getD (i : Int).toNat K.inss.dflt).b, ((mkQ k i ++ l.drop i).getD (i : Int).toNat K.inss.dflt).c⟩)
    : mkQ k (i + 1) ++ l.drop (i + 1) = L4 := by
  have h' : i < (mkQ k i ++ l.drop i).length := by simp [mkQ]; omega
  rw [Int.toNat_natCast] at e1 e2 e3 e4
  subst h1 h2 h3 e1
  rw [set_getD h', List.set_set] at e2; subst e2
  rw [set_getD h', List.set_set] at e3; subst e3
  rw [set_getD h', List.set_set] at e4; subst e4
  exact (mkQ_step h).symm
theorem mkQ_end {k : Int} {l : List V.Ins} {i : Nat} (h : ¬ (i : Int) < l.length) (hi : i ≤ l.length) : mkQ k i ++ l.drop i = mkQ k l.length := by
  have : i = l.length := by omega
  subst this; simp
theorem mkw1 {k : Int} {i n : Nat} (h0 : 0 ≤ k) (h1 : k ≤ 1099511627776) (hi : i ≤ n) (hn : n ≤ 4194304) : IntKind.i64.wrap (k + 4 * (i : Nat) + 1) = k + 4 * (i : Nat) + 1 := wr (by omega) (by omega)
theorem w2 {k : Int} {i n : Nat} (h0 : 0 ≤ k) (h1 : k ≤ 1099511627776) (hi : i ≤ n) (hn : n ≤ 4194304) : IntKind.i64.wrap (IntKind.i64.wrap (k + 4 * (i : Nat) + 1) + 1) = k + 4 * (i : Nat) + 1 + 1 := by rw [mkw1 h0 h1 hi hn]; exact wr (by omega) (by omega)
theorem w3 {k : Int} {i n : Nat} (h0 : 0 ≤ k) (h1 : k ≤ 1099511627776) (hi : i ≤ n) (hn : n ≤ 4194304) : IntKind.i64.wrap (IntKind.i64.wrap (IntKind.i64.wrap (k + 4 * (i : Nat) + 1) + 1) + 1) = k + 4 * (i : Nat) + 1 + 1 + 1 := by rw [w2 h0 h1 hi hn]; exact wr (by omega) (by omega)
theorem w4 {k : Int} {i n : Nat} (h0 : 0 ≤ k) (h1 : k ≤ 1099511627776) (hi : i ≤ n) (hn : n ≤ 4194304) : IntKind.i64.wrap (IntKind.i64.wrap (IntKind.i64.wrap (IntKind.i64.wrap (k + 4 * (i : Nat) + 1) + 1) + 1) + 1) = k + 4 * ((i + 1 : Nat) : Int) := by rw [w3 h0 h1 hi hn, wr (by omega) (by omega)]; omega

theorem lt_of_midQ {k : Int} {l : List V.Ins} {i : Nat} (h : (i : Int) < ((mkQ k i ++ l.drop i).length : Nat)) : (i : Int) < l.length := by
  simp only [mkQ_len, List.length_append, List.length_drop] at h; omega

set_option maxRecDepth 100000 in
theorem g_markInsS (l : List V.Ins) (k : Int) (h0 : 0 ≤ k) (h1 : k ≤ 1099511627776) (hl : l.length ≤ 4194304) : CallsG Tryz.prog 43 [.row 0, .dat (.i k)] [.row 91 .inss l false] 1 (fun res B => res = .dat (.i (k + 4 * (l.length : Nat))) ∧ B = [.row 91 .inss (mkQ k l.length) false]) := by
  refine CallsG.of_awp tauOk mixOk Tryz.func43 rfl rfl rfl ?_
  conv => whnf
  repeat' (first
    | ((with_reducible refine fun (K1 : AX → AState → Prop) hK => ?_); conv => whnf)
    | ((with_reducible show K1 _ _); subst hK; conv => whnf)
    | (with_reducible exact rfl)
    | ((with_reducible refine sp_d (fun h => ?_) (fun h => ?_)) <;> first | contradiction | (subst h; conv => whnf) | (conv => whnf))
    | (refine ⟨(rfl : nodupB _ = true), rfl, ?_⟩; conv => whnf)
    | (with_reducible refine bnd2 ?_ ?_)
    | ((with_reducible refine and_of ?_ ?_); conv => whnf)
    | (refine Exists.intro ({i : Nat // i ≤ l.length}) (Exists.intro (fun ⟨i, hi⟩ => mkS Tryz.f43.ntmps [(0, .row 900000), (1, .dat (.i (k + 4 * (i : Nat)))), (5, .dat (.i i))] [(900000, .row 91 .inss (mkQ k i ++ l.drop i) false)]) (Exists.intro (fun ⟨i, hi⟩ => l.length - i) (Exists.intro ⟨0, Nat.zero_le _⟩ (And.intro (SubP.sub (σ := [(900000, some 900000)]) ⟨⟨rfl, rfl, rfl⟩, ⟨rfl, (wk_dat ?_), (wk_dat ?_), trivial⟩, ⟨⟨⟨rfl, rfl⟩, ?_⟩, trivial⟩⟩) (fun ⟨i, hi⟩ => ?_))))); rotate_right; conv => whnf)
    | (refine Exists.intro ⟨i + 1, ?_⟩ (And.intro ?_ (SubP.sub (σ := [(900000, some 900000)]) ⟨⟨rfl, rfl, rfl⟩, ⟨rfl, (wk_dat ?_), (wk_dat ?_), trivial⟩, ⟨⟨⟨rfl, rfl⟩, ?_⟩, trivial⟩⟩)))
    | ((with_reducible show awpOps _ _ _ _ _ _); conv => whnf)
    | (intro h; conv => whnf))
  all_goals (repeat (clear hK; clear K1))
  all_goals first
    | rfl
    | assumption
    | exact Bool.noConfusion (h.symm.trans hp)
    | omega
    | (dsimp only; omega)
    | exact congrArg (Dat.int .i64) (wrap_succ (by assumption) (by assumption)).symm
    | (have hb := lt_of_midQ (k := k) (l := l) (i := i) (by assumption); first | omega | (dsimp only; omega) | (subst_vars; simp only [List.length_set, List.length_append, mkQ_len, List.length_drop]; omega) | exact sig_fin (mkQ_step4 hb (mkw1 h0 h1 hi hl) (w2 h0 h1 hi hl) (w3 h0 h1 hi hl) (by assumption) (by assumption) (by assumption) (by assumption)))
    | exact congrArg (Dat.int .i64) (w4 h0 h1 hi hl).symm
    | exact row_fin (mkQ_end (by simp only [mkQ_len, List.length_append, List.length_drop] at h; omega) hi)
    | exact congrArg (fun x => AV.dat (Dat.i x)) (by simp only [mkQ_len, List.length_append, List.length_drop] at h; omega)
    | exact congrArg Dat.i (by simp)
set_option maxRecDepth 100000 in
theorem g_markProgram (w mem inn : Int) (l : List V.Ins) (k : Int) (h0 : 0 ≤ k) (h1 : k ≤ 1099511627776) (hl : l.length ≤ 4194304) : CallsG Tryz.prog 16 [.agg [.dat (.i w), .dat (.i mem), .dat (.i inn), .row 0], .dat (.i k)] [.row 91 .inss l false] 1 (fun res B => res = .dat (.i (k + 4 * (l.length : Nat))) ∧ B = [.row 91 .inss (mkQ k l.length) false]) := by
  refine CallsG.of_awp tauOk mixOk Tryz.func16 rfl rfl rfl ?_
  conv => whnf
  repeat' (first
    | ((with_reducible refine fun (K1 : AX → AState → Prop) hK => ?_); conv => whnf)
    | ((with_reducible show K1 _ _); subst hK; conv => whnf)
    | (with_reducible exact rfl)
    | (refine ⟨(rfl : nodupB _ = true), rfl, ?_⟩; conv => whnf)
    | ((with_reducible refine and_of ?_ ?_); conv => whnf)
    | ((with_reducible refine gcI (g := 43) ?_); refine ⟨_, _, g_markInsS (h0 := ?_) (h1 := ?_) (hl := ?_) .., fun res B hRB => ?_⟩; rotate_right; obtain ⟨rfl, rfl⟩ := hRB; conv => whnf)
    | ((with_reducible show awpOps _ _ _ _ _ _); conv => whnf)
    | (intro h; conv => whnf))
  all_goals (repeat (clear hK; clear K1))
  all_goals first
      | rfl
      | assumption
      | exact Bool.noConfusion (h.symm.trans hp)
      | (simp_all []; done)
      | grind []
      | (simp_all []; omega)
end Vg
