/- Marks: contracts of the law's helpers that write counters into memory and look for them. Condition: counters stay small. -/
import Derived.Test.YtjlffejifadkiaaGreatDoorBase
namespace Vg
open Go Go.Proofs
set_option maxRecDepth 100000
set_option maxHeartbeats 40000000
def qB (k : Int) (n : Nat) : List Int := (List.range n).map fun i => k + (i : Nat)
theorem mkI_len (k : Int) (n : Nat) : (qB k n).length = n := by simp [qB]
theorem qgk {k : Int} {l : List Int} {i : Nat} (h : (i : Int) < l.length) : (qB k i ++ l.drop i).set i (k + (i : Nat)) = qB k (i + 1) ++ l.drop (i + 1) := by
  have h' : i < l.length := by omega
  rw [List.set_append_right _ _ (by simp [qB])]
  simp only [qB, List.length_map, List.length_range, Nat.sub_self, List.drop_eq_getElem_cons h', List.set_cons_zero, List.range_succ, List.map_append, List.map_cons, List.map_nil, List.append_assoc, List.cons_append, List.nil_append]
theorem mkI_end {k : Int} {l : List Int} {i : Nat} (h : ¬ (i : Int) < l.length) (hi : i ≤ l.length) : qB k i ++ l.drop i = qB k l.length := by
  have : i = l.length := by omega
  subst this; simp
theorem mkI_get {k : Int} {n i : Nat} (d : Int) (h : (i : Int) < n) : (qB k n).getD i d = k + (i : Nat) := by
  have h' : i < n := by omega
  simp [qB, List.getD_eq_getElem?_getD, h']
theorem add_succ {k : Int} {i : Nat} {n : Nat} (h : (i : Int) < n) (h0 : 0 ≤ k) (h1 : k ≤ 1099511627776) (hn : n ≤ 4194304) : IntKind.i64.wrap (k + (i : Nat) + 1) = k + ((i + 1 : Nat) : Int) := by
  rw [wrap_id] <;> omega
theorem qbo (l : List Int) (k : Int) (h0 : 0 ≤ k) (h1 : k ≤ 1099511627776) (hl : l.length ≤ 4194304) : CallsG Tryz.prog 19 [.row 0, .dat (.i k)] [.row 3 .ints l false] 1 (fun res B => res = .dat (.i (k + l.length)) ∧ B = [.row 3 .ints (qB k l.length) false]) := by
  refine oG Tryz.func19 ⟨?_⟩
  repeat' (first | ((with_reducible refine fun (K1 : KT) hK => ?_); refine m4 ⟨?_⟩) | ((with_reducible show K1 _ _); subst hK; conv => whnf) | (with_reducible exact rfl) | refine st0 ⟨?_⟩ | ((with_reducible refine SplS.mk (fun h => ?_) (fun h => ?_)) <;> first | exact f5 | (subst h; conv => whnf) | (conv => whnf)) | refine f1 ⟨?_⟩ ⟨?_⟩ | (refine Exists.intro ({i : Nat // i ≤ l.length}) (Exists.intro (fun ⟨i, hi⟩ => r4 Tryz.f19.ntmps [(0, .row 900000), (1, .dat (.i (k + (i : Nat)))), (5, .dat (.i i))] [(900000, .row 3 .ints (qB k i ++ l.drop i) false)]) (Exists.intro (fun ⟨i, hi⟩ => l.length - i) (Exists.intro ⟨0, Nat.zero_le _⟩ (And.intro (SubP.sub (σ := [(900000, some 900000)]) ⟨⟨rfl, rfl, rfl⟩, ⟨rfl, o0 ?_, o0 ?_, trivial⟩, ⟨⟨⟨rfl, rfl⟩, ?_⟩, trivial⟩⟩) (fun ⟨i, hi⟩ => ?_))))); rotate_right; conv => whnf) | (refine Exists.intro ⟨i + 1, ?_⟩ (And.intro ?_ (SubP.sub (σ := [(900000, some 900000)]) ⟨⟨rfl, rfl, rfl⟩, ⟨rfl, o0 ?_, o0 ?_, trivial⟩, ⟨⟨⟨rfl, rfl⟩, ?_⟩, trivial⟩⟩))) | (intro h; conv => whnf))
  all_goals repeat clear hK K1
  all_goals first | rfl | assumption | exact Bool.noConfusion (h.symm.trans hp) | omega | (dsimp only; omega) | exact congrArg (Dat.int .i64) (wrap_succ (by assumption) (by assumption)).symm | (simp only [mkI_len, List.length_append, List.length_drop] at h; first | omega | (dsimp only; omega)) | exact congrArg (Dat.int .i64) (add_succ (n := l.length) (by simp only [mkI_len, List.length_append, List.length_drop] at h; omega) h0 h1 hl).symm | exact jM (qgk (by simp only [mkI_len, List.length_append, List.length_drop] at h; omega)).symm | exact zJ (mkI_end (by simp only [mkI_len, List.length_append, List.length_drop] at h; omega) hi) | exact congrArg (fun x => AV.dat (Dat.i x)) (by simp only [mkI_len, List.length_append, List.length_drop] at h; omega) | exact congrArg Dat.i (by simp)
theorem qh3 (k : Int) : CallsV Tryz.prog 19 [.dat (.seq .ints []), .dat (.i k)] (.dat (.i k)) := by
  refine oV Tryz.func19 ⟨?_⟩
  repeat' (first | ((with_reducible refine fun (K1 : KT) hK => ?_); refine m4 ⟨?_⟩) | ((with_reducible show K1 _ _); subst hK; conv => whnf) | (with_reducible exact rfl) | refine st0 ⟨?_⟩ | ((with_reducible refine SplS.mk (fun h => ?_) (fun h => ?_)) <;> first | exact f5 | (subst h; conv => whnf) | (conv => whnf)) | (refine Exists.intro (Unit) (Exists.intro (fun _ => r4 Tryz.f19.ntmps [(0, .dat (.seq .ints [])), (1, .dat (.i k)), (5, .dat (.i 0))] []) (Exists.intro (fun _ => 0) (Exists.intro () (And.intro (SubP.sub (σ := []) ⟨⟨rfl, rfl, rfl⟩, ⟨o0 ?_, o0 ?_, o0 ?_, trivial⟩, trivial⟩) (fun _ => ?_))))); rotate_right; conv => whnf) | (refine Exists.intro () (And.intro ?_ (SubP.sub (σ := []) ⟨⟨rfl, rfl, rfl⟩, ⟨o0 ?_, o0 ?_, o0 ?_, trivial⟩, trivial⟩))) | (intro h; conv => whnf))
  all_goals repeat clear hK K1
  all_goals first | rfl | assumption | exact Bool.noConfusion (h.symm.trans hp) | omega | (dsimp only; omega)
theorem wZ (k : Int) (n : Nat) (h0 : 0 ≤ k) (h1 : k ≤ 1099511627776) (hl : n ≤ 4194304) : CallsV Tryz.prog 20 [.dat (.seq .ints (qB k n)), .dat (.i k)] (.dat (.i (k + n))) := by
  refine oV Tryz.func20 ⟨?_⟩
  repeat' (first | ((with_reducible refine fun (K1 : KT) hK => ?_); refine m4 ⟨?_⟩) | ((with_reducible show K1 _ _); subst hK; conv => whnf) | (with_reducible exact rfl) | refine st0 ⟨?_⟩ | ((with_reducible refine SplS.mk (fun h => ?_) (fun h => ?_)) <;> first | exact f5 | (subst h; conv => whnf) | (conv => whnf)) | refine f1 ⟨?_⟩ ⟨?_⟩ | (refine Exists.intro ({i : Nat // i ≤ n}) (Exists.intro (fun ⟨i, hi⟩ => r4 Tryz.f20.ntmps [(0, .dat (.seq .ints (qB k n))), (1, .dat (.i (k + (i : Nat)))), (5, .dat (.i i))] []) (Exists.intro (fun ⟨i, hi⟩ => n - i) (Exists.intro ⟨0, Nat.zero_le _⟩ (And.intro (SubP.sub (σ := []) ⟨⟨rfl, rfl, rfl⟩, ⟨o0 ?_, o0 ?_, o0 ?_, trivial⟩, trivial⟩) (fun ⟨i, hi⟩ => ?_))))); rotate_right; conv => whnf) | (refine Exists.intro ⟨i + 1, ?_⟩ (And.intro ?_ (SubP.sub (σ := []) ⟨⟨rfl, rfl, rfl⟩, ⟨o0 ?_, o0 ?_, o0 ?_, trivial⟩, trivial⟩))) | (intro h; conv => whnf))
  all_goals repeat clear hK K1
  all_goals first | rfl | assumption | exact Bool.noConfusion (h.symm.trans hp) | omega | (dsimp only; omega) | exact congrArg (Dat.int .i64) (wrap_succ (by assumption) (by assumption)).symm | (rename_i hb; rw [mkI_len] at hb; first | omega | (dsimp only; omega) | exact congrArg (Dat.int .i64) (add_succ (n := n) omG h0 h1 hl).symm | exact absurd (mkI_get _ omG) h) | (rw [mkI_len] at h; exact congrArg Dat.i omG) | exact congrArg Dat.i (by simp)
theorem wr {k : Int} (h0 : 0 ≤ k) (h1 : k ≤ 2199023255552) : IntKind.i64.wrap (k + 1) = k + 1 := wrap_id omG omG
def dA (k : Int) (n : Nat) : List V.Ins := (List.range n).map fun i => ⟨k + 4 * (i : Nat), k + 4 * (i : Nat) + 1, k + 4 * (i : Nat) + 1 + 1, k + 4 * (i : Nat) + 1 + 1 + 1⟩
theorem gN (k : Int) (n : Nat) : (dA k n).length = n := by simp [dA]
theorem xP {α : Type} {l : List α} {i : Nat} {a d : α} (h : i < l.length) : (l.set i a).getD i d = a := by
  simp [List.getD_eq_getElem?_getD, h]
theorem qgj {k : Int} {l : List V.Ins} {i : Nat} (h : (i : Int) < l.length) : (dA k i ++ l.drop i).set i ⟨k + 4 * (i : Nat), k + 4 * (i : Nat) + 1, k + 4 * (i : Nat) + 1 + 1, k + 4 * (i : Nat) + 1 + 1 + 1⟩ = dA k (i + 1) ++ l.drop (i + 1) := by
  have h' : i < l.length := by omega
  rw [List.set_append_right _ _ (by simp [dA])]
  simp only [dA, List.length_map, List.length_range, Nat.sub_self, List.drop_eq_getElem_cons h', List.set_cons_zero, List.range_succ, List.map_append, List.map_cons, List.map_nil, List.append_assoc, List.cons_append, List.nil_append]
theorem qgi {k k1 k2 k3 : Int} {l : List V.Ins} {i : Nat} (h : (i : Int) < l.length) (h1 : k1 = k + 4 * (i : Nat) + 1) (h2 : k2 = k + 4 * (i : Nat) + 1 + 1) (h3 : k3 = k + 4 * (i : Nat) + 1 + 1 + 1)
    {L1 L2 L3 L4 : List V.Ins} (e4 : L4 = L3.set (i : Int).toNat ⟨(L3.getD (i : Int).toNat K.inss.dflt).op, (L3.getD (i : Int).toNat K.inss.dflt).a, (L3.getD (i : Int).toNat K.inss.dflt).b, k3⟩)
    (e3 : L3 = L2.set (i : Int).toNat ⟨(L2.getD (i : Int).toNat K.inss.dflt).op, (L2.getD (i : Int).toNat K.inss.dflt).a, k2, (L2.getD (i : Int).toNat K.inss.dflt).c⟩)
    (e2 : L2 = L1.set (i : Int).toNat ⟨(L1.getD (i : Int).toNat K.inss.dflt).op, k1, (L1.getD (i : Int).toNat K.inss.dflt).b, (L1.getD (i : Int).toNat K.inss.dflt).c⟩)
    (e1 : L1 = (dA k i ++ l.drop i).set (i : Int).toNat ⟨k + 4 * (i : Nat), ((dA k i ++ l.drop i).getD (i : Int).toNat K.inss.dflt).a, ((dA k i ++ l.drop i).getD (i : Int).toNat K.inss.dflt).b, ((dA k i ++ l.drop i).getD (i : Int).toNat K.inss.dflt).c⟩)
    : dA k (i + 1) ++ l.drop (i + 1) = L4 := by
  have h' : i < (dA k i ++ l.drop i).length := by simp [dA]; omega
  rw [Int.toNat_natCast] at e1 e2 e3 e4
  subst h1 h2 h3 e1
  rw [xP h', List.set_set] at e2; subst e2
  rw [xP h', List.set_set] at e3; subst e3
  rw [xP h', List.set_set] at e4; subst e4
  exact (qgj h).symm
theorem mkQ_end {k : Int} {l : List V.Ins} {i : Nat} (h : ¬ (i : Int) < l.length) (hi : i ≤ l.length) : dA k i ++ l.drop i = dA k l.length := by
  have : i = l.length := by omega
  subst this; simp
theorem mkw1 {k : Int} {i n : Nat} (h0 : 0 ≤ k) (h1 : k ≤ 1099511627776) (hi : i ≤ n) (hn : n ≤ 4194304) : IntKind.i64.wrap (k + 4 * (i : Nat) + 1) = k + 4 * (i : Nat) + 1 := wr omG omG
theorem w2 {k : Int} {i n : Nat} (h0 : 0 ≤ k) (h1 : k ≤ 1099511627776) (hi : i ≤ n) (hn : n ≤ 4194304) : IntKind.i64.wrap (IntKind.i64.wrap (k + 4 * (i : Nat) + 1) + 1) = k + 4 * (i : Nat) + 1 + 1 := by rw [mkw1 h0 h1 hi hn]; exact wr omG omG
theorem w3 {k : Int} {i n : Nat} (h0 : 0 ≤ k) (h1 : k ≤ 1099511627776) (hi : i ≤ n) (hn : n ≤ 4194304) : IntKind.i64.wrap (IntKind.i64.wrap (IntKind.i64.wrap (k + 4 * (i : Nat) + 1) + 1) + 1) = k + 4 * (i : Nat) + 1 + 1 + 1 := by rw [w2 h0 h1 hi hn]; exact wr omG omG
theorem w4 {k : Int} {i n : Nat} (h0 : 0 ≤ k) (h1 : k ≤ 1099511627776) (hi : i ≤ n) (hn : n ≤ 4194304) : IntKind.i64.wrap (IntKind.i64.wrap (IntKind.i64.wrap (IntKind.i64.wrap (k + 4 * (i : Nat) + 1) + 1) + 1) + 1) = k + 4 * ((i + 1 : Nat) : Int) := by rw [w3 h0 h1 hi hn, wr omG omG]; omega
theorem qgq {k : Int} {l : List V.Ins} {i : Nat} (h : (i : Int) < ((dA k i ++ l.drop i).length : Nat)) : (i : Int) < l.length := by
  simp only [gN, List.length_append, List.length_drop] at h; omega
theorem qh4 (l : List V.Ins) (k : Int) (h0 : 0 ≤ k) (h1 : k ≤ 1099511627776) (hl : l.length ≤ 4194304) : CallsG Tryz.prog 46 [.row 0, .dat (.i k)] [.row 66 .inss l false] 1 (fun res B => res = .dat (.i (k + 4 * (l.length : Nat))) ∧ B = [.row 66 .inss (dA k l.length) false]) := by
  refine oG Tryz.func46 ⟨?_⟩
  repeat' (first | ((with_reducible refine fun (K1 : KT) hK => ?_); refine m4 ⟨?_⟩) | ((with_reducible show K1 _ _); subst hK; conv => whnf) | (with_reducible exact rfl) | refine st0 ⟨?_⟩ | ((with_reducible refine SplS.mk (fun h => ?_) (fun h => ?_)) <;> first | exact f5 | (subst h; conv => whnf) | (conv => whnf)) | refine f1 ⟨?_⟩ ⟨?_⟩ | (refine Exists.intro ({i : Nat // i ≤ l.length}) (Exists.intro (fun ⟨i, hi⟩ => r4 Tryz.f46.ntmps [(0, .row 900000), (1, .dat (.i (k + 4 * (i : Nat)))), (5, .dat (.i i))] [(900000, .row 66 .inss (dA k i ++ l.drop i) false)]) (Exists.intro (fun ⟨i, hi⟩ => l.length - i) (Exists.intro ⟨0, Nat.zero_le _⟩ (And.intro (SubP.sub (σ := [(900000, some 900000)]) ⟨⟨rfl, rfl, rfl⟩, ⟨rfl, o0 ?_, o0 ?_, trivial⟩, ⟨⟨⟨rfl, rfl⟩, ?_⟩, trivial⟩⟩) (fun ⟨i, hi⟩ => ?_))))); rotate_right; conv => whnf) | (refine Exists.intro ⟨i + 1, ?_⟩ (And.intro ?_ (SubP.sub (σ := [(900000, some 900000)]) ⟨⟨rfl, rfl, rfl⟩, ⟨rfl, o0 ?_, o0 ?_, trivial⟩, ⟨⟨⟨rfl, rfl⟩, ?_⟩, trivial⟩⟩))) | (intro h; conv => whnf))
  all_goals repeat clear hK K1
  all_goals first | rfl | assumption | exact Bool.noConfusion (h.symm.trans hp) | omega | (dsimp only; omega) | exact congrArg (Dat.int .i64) (wrap_succ (by assumption) (by assumption)).symm | (have hb := qgq (k := k) (l := l) (i := i) (by assumption); first | omega | (dsimp only; omega) | (subst_vars; simp only [List.length_set, List.length_append, gN, List.length_drop]; omega) | exact jM (qgi hb (mkw1 h0 h1 hi hl) (w2 h0 h1 hi hl) (w3 h0 h1 hi hl) (by assumption) (by assumption) (by assumption) (by assumption))) | exact congrArg (Dat.int .i64) (w4 h0 h1 hi hl).symm | exact zJ (mkQ_end (by simp only [gN, List.length_append, List.length_drop] at h; omega) hi) | exact congrArg (fun x => AV.dat (Dat.i x)) (by simp only [gN, List.length_append, List.length_drop] at h; omega) | exact congrArg Dat.i (by simp)
theorem qbn (w mem inn : Int) (l : List V.Ins) (k : Int) (h0 : 0 ≤ k) (h1 : k ≤ 1099511627776) (hl : l.length ≤ 4194304) : CallsG Tryz.prog 18 [.agg [.dat (.i w), .dat (.i mem), .dat (.i inn), .row 0], .dat (.i k)] [.row 66 .inss l false] 1 (fun res B => res = .dat (.i (k + 4 * (l.length : Nat))) ∧ B = [.row 66 .inss (dA k l.length) false]) := by
  refine oG Tryz.func18 ⟨?_⟩
  repeat' (first | ((with_reducible refine fun (K1 : KT) hK => ?_); refine m4 ⟨?_⟩) | ((with_reducible show K1 _ _); subst hK; conv => whnf) | (with_reducible exact rfl) | ((with_reducible refine SplS.mk (fun h => ?_) (fun h => ?_)) <;> first | exact f5 | (subst h; conv => whnf) | (conv => whnf)) | refine f1 ⟨?_⟩ ⟨?_⟩ | ((with_reducible refine a6 (g := 46) ?_); refine ⟨_, _, qh4 (h0 := ?_) (h1 := ?_) (hl := ?_) .., zV ?_⟩; rotate_right; conv => whnf) | (intro h; conv => whnf))
  all_goals repeat clear hK K1
  all_goals first | rfl | assumption | exact Bool.noConfusion (h.symm.trans hp) | (simp_all []; done) | grind [] | (simp_all []; omega)
end Vg
