/- Counters written into slices of slices: contract. Condition: lists are no longer than the law lets through. -/
import Derived.Test.YtnjkencoohaheaaTrees
namespace Vg
open Go Go.Proofs
theorem mcI {P : Program} {g : Nat} {vs : List AV} {bs : List Blk} {k : Nat} {Q : (AV → List Blk → Prop) → Prop} (h : ∃ R, CallsG P g vs bs k R ∧ Q R) : ∃ R, CallsG P g vs bs k R ∧ Q R := h
def lenTo (l : List (List Int)) (i : Nat) : Nat := ((l.take i).map List.length).sum
def mkII (k : Int) (l : List (List Int)) (n : Nat) : List (List Int) := (List.range n).map fun i => mkI (k + (lenTo l i : Nat)) (l.getD i []).length
theorem mkII_len (k : Int) (l : List (List Int)) (n : Nat) : (mkII k l n).length = n := by simp [mkII]
theorem mkII_mid {k : Int} {l : List (List Int)} {i : Nat} (d : List Int) : (mkII k l i ++ l.drop i).getD i d = l.getD i d := by
  rw [List.getD_eq_getElem?_getD, List.getElem?_append_right (by rw [mkII_len]; exact Nat.le_refl i), mkII_len, Nat.sub_self, List.getElem?_drop, Nat.add_zero, ← List.getD_eq_getElem?_getD]
theorem lt_of_midII {k : Int} {l : List (List Int)} {i : Nat} (h : (i : Int) < ((mkII k l i ++ l.drop i).length : Nat)) : (i : Int) < l.length := by
  simp only [mkII_len, List.length_append, List.length_drop] at h; omega
theorem lenTo_step {l : List (List Int)} {i : Nat} (h : (i : Int) < l.length) : lenTo l (i + 1) = lenTo l i + (l.getD i []).length := sum_step h
theorem lenTo_le (l : List (List Int)) (i : Nat) : lenTo l i ≤ totSS l := by have := sum_le (a := l) i; unfold lenTo totSS; omega
theorem mkII_step {k : Int} {l : List (List Int)} {i : Nat} (h : (i : Int) < l.length) : (mkII k l i ++ l.drop i).set i (mkI (k + (lenTo l i : Nat)) ((mkII k l i ++ l.drop i).getD i []).length) = mkII k l (i + 1) ++ l.drop (i + 1) := by
  have h' : i < l.length := by omega
  rw [mkII_mid, List.set_append_right _ _ (by simp [mkII])]
  simp only [mkII, List.length_map, List.length_range, Nat.sub_self, List.drop_eq_getElem_cons h', List.set_cons_zero, List.range_succ, List.map_append, List.map_cons, List.map_nil, List.append_assoc, List.cons_append, List.nil_append]
theorem mkII_end {k : Int} {l : List (List Int)} {i : Nat} (h : ¬ (i : Int) < ((mkII k l i ++ l.drop i).length : Nat)) (hi : i ≤ l.length) : mkII k l i ++ l.drop i = mkII k l l.length := by
  simp only [mkII_len, List.length_append, List.length_drop] at h
  have : i = l.length := by omega
  subst this; simp
theorem lenTo_end {k : Int} {l : List (List Int)} {i : Nat} (h : ¬ (i : Int) < ((mkII k l i ++ l.drop i).length : Nat)) (hi : i ≤ l.length) : lenTo l i = lenTo l l.length := by
  simp only [mkII_len, List.length_append, List.length_drop] at h
  rw [show i = l.length from by omega]
theorem mkII_cnt {k : Int} {l : List (List Int)} {i : Nat} (h : (i : Int) < l.length) : k + (lenTo l (i + 1) : Nat) = k + (lenTo l i : Nat) + (((mkII k l i ++ l.drop i).getD i []).length : Nat) := by
  rw [mkII_mid, lenTo_step h]; omega
theorem mkII_short {k : Int} {l : List (List Int)} {i : Nat} (h : (i : Int) < l.length) (hl : totSS l ≤ 1048576) : ((mkII k l i ++ l.drop i).getD i []).length ≤ 4194304 := by
  rw [mkII_mid]; have h1 := len_le h; unfold totSS at hl; omega
set_option maxRecDepth 100000 in
theorem g_markIntSS (l : List (List Int)) (k : Int) (h0 : 0 ≤ k) (h1 : k ≤ 8589934592) (hl : totSS l ≤ 1048576) : CallsG Try.prog 46 [.row 0, .dat (.i k)] [.tree 29 .intss l] 1 (fun res B => res = .dat (.i (k + (lenTo l l.length : Nat))) ∧ B = [.tree 29 .intss (mkII k l l.length)]) := by
  refine CallsG.of_awp tauOk mixOk Try.func46 rfl rfl rfl ?_
  conv => whnf
  repeat' (first
    | ((with_reducible refine Alt.l ?_); conv => whnf)
    | ((with_reducible refine fun (K1 : AX → AState → Prop) hK => ?_); conv => whnf)
    | ((with_reducible show K1 _ _); subst hK; conv => whnf)
    | (with_reducible exact rfl)
    | ((with_reducible refine sp_T ?_); conv => whnf)
    | ((with_reducible refine sp_F ?_); conv => whnf)
    | ((with_reducible refine sp_T' ?_); conv => whnf)
    | ((with_reducible refine sp_F' ?_); conv => whnf)
    | ((with_reducible refine sp_dF ?_ ?_); decide; conv => whnf)
    | ((with_reducible refine sp_dT ?_ ?_); decide; conv => whnf)
    | ((with_reducible refine sp_d (fun h => ?_) (fun h => ?_)) <;> first | contradiction | (subst h; conv => whnf) | (conv => whnf))
    | ((with_reducible refine sp_d' (fun h => ?_) (fun h => ?_)) <;> first | contradiction | (subst h; conv => whnf) | (conv => whnf))
    | ((with_reducible refine sp_eF ?_ ?_); decide; conv => whnf)
    | ((with_reducible refine sp_eT ?_); conv => whnf)
    | ((with_reducible refine sp_e (fun h => ?_) (fun h => ?_)) <;> first | contradiction | (subst h; conv => whnf) | (conv => whnf))
    | ((with_reducible refine sp_e' (fun h => ?_) (fun h => ?_)) <;> first | contradiction | (subst h; conv => whnf) | (conv => whnf))
    | ((with_reducible refine sp_n (fun h => ?_) (fun h => ?_)) <;> first | contradiction | (subst h; conv => whnf) | (conv => whnf))
    | ((with_reducible refine sp_n' (fun h => ?_) (fun h => ?_)) <;> first | contradiction | (subst h; conv => whnf) | (conv => whnf))
    | ((with_reducible refine sp_nb (fun h => ?_) (fun h => ?_)) <;> first | contradiction | (exact Bool.noConfusion (Eq.trans (Eq.symm h) (show _ = true by assumption))) | (exact Bool.noConfusion (Eq.trans (Eq.symm (show _ = false by assumption)) h)) | (conv => whnf))
    | ((with_reducible refine sp_nb' (fun h => ?_) (fun h => ?_)) <;> first | contradiction | (exact Bool.noConfusion (Eq.trans (Eq.symm h) (show _ = true by assumption))) | (exact Bool.noConfusion (Eq.trans (Eq.symm (show _ = false by assumption)) h)) | (conv => whnf))
    | ((with_reducible refine sp_b (fun h => ?_) (fun h => ?_)) <;> first | contradiction | (exact Bool.noConfusion (Eq.trans (Eq.symm h) (show _ = true by assumption))) | (exact Bool.noConfusion (Eq.trans (Eq.symm (show _ = false by assumption)) h)) | (conv => whnf))
    | ((with_reducible refine sp_b' (fun h => ?_) (fun h => ?_)) <;> first | contradiction | (exact Bool.noConfusion (Eq.trans (Eq.symm h) (show _ = true by assumption))) | (exact Bool.noConfusion (Eq.trans (Eq.symm (show _ = false by assumption)) h)) | (conv => whnf))
    | (refine ⟨(rfl : nodupB _ = true), rfl, ?_⟩; conv => whnf)
    | (with_reducible refine bnd2 ?_ ?_)
    | (with_reducible refine bnd2' ?_ ?_)
    | (with_reducible refine bndN ?_ ?_)
    | ((with_reducible refine and_of ?_ ?_); conv => whnf)
    | (refine Exists.intro ({i : Nat // i ≤ l.length}) (Exists.intro (fun ⟨i, hi⟩ => mkS Try.f46.ntmps [(0, .row 900000), (1, .dat (.i (k + (lenTo l i : Nat)))), (5, .dat (.i i))] [(900000, .tree 29 .intss (mkII k l i ++ l.drop i))]) (Exists.intro (fun ⟨i, hi⟩ => l.length - i) (Exists.intro ⟨0, Nat.zero_le _⟩ (And.intro (SubP.sub (σ := [(900000, some 900000)]) ⟨⟨rfl, rfl, rfl⟩, ⟨rfl, (wk_dat ?_), (wk_dat ?_), trivial⟩, ⟨⟨rfl, ?_⟩, trivial⟩⟩) (fun ⟨i, hi⟩ => ?_))))); rotate_right; conv => whnf)
    | (refine Exists.intro ⟨i + 1, ?_⟩ (And.intro ?_ (SubP.sub (σ := [(900000, some 900000)]) ⟨⟨rfl, rfl, rfl⟩, ⟨rfl, (wk_dat ?_), (wk_dat ?_), trivial⟩, ⟨⟨rfl, ?_⟩, trivial⟩⟩)))
    | ((with_reducible refine gcI (g := 47) ?_); refine ⟨_, _, g_markIntS (h0 := ?_) (h1 := ?_) (hl := ?_) .., fun res B hRB => ?_⟩; rotate_right; obtain ⟨rfl, rfl⟩ := hRB; conv => whnf)
    | ((with_reducible refine mcI (g := 47) ?_); refine ⟨_, g_markIntS (h0 := ?_) (h1 := ?_) (hl := ?_) .., fun res B hRB => ?_⟩; rotate_right; obtain ⟨rfl, rfl⟩ := hRB; conv => whnf)
    | ((with_reducible refine pcI (g := 47) ?_); refine ⟨_, g_markIntS0 .., rfl, ?_⟩; rotate_right; conv => whnf)
    | ((with_reducible show Exists _); refine Exists.intro _ (And.intro (g_markIntS0 ..) (And.intro rfl ?_)); rotate_right; conv => whnf)
    | ((with_reducible show awpOps _ _ _ _ _ _); conv => whnf)
    | (intro h; conv => whnf))
  all_goals (repeat (clear hK; clear K1))
  all_goals first
    | rfl
    | assumption
    | exact Bool.noConfusion (h.symm.trans hp)
    | omega
    | (dsimp only; omega)
    | exact congrArg (Dat.int .i64) (wrap_succ (by assumption) (by assumption)).symm
    | (have hb := lt_of_midII (by assumption); first | omega | (dsimp only; omega) | exact sig_fin ((mkII_step hb).symm.trans h.symm) | exact congrArg Dat.i (mkII_cnt hb))
    | (have hb := lenTo_le l i; exact (by omega : k + (lenTo l i : Nat) ≤ 1099511627776))
    | exact mkII_short (lt_of_midII h) hl
    | exact tree_fin (mkII_end h hi)
    | exact congrArg (fun x => AV.dat (Dat.i x)) (by rw [lenTo_end h hi])
    | exact congrArg Dat.i (by simp [lenTo])
end Vg
