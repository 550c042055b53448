/- What is left of the laws' bound on sizes. No condition. -/
import Derived.Test.YtgmpfaennbojaaaGreatBase
import Derived.Test.YtgmpfaennbojaaaGreatTermQ
namespace Vg
open Go Go.Proofs
def szL (L : Int) (n : Nat) : Int := if L - n < 0 then -1 else L - n
theorem szL_neg {L : Int} {n : Nat} (h : L < 0) : szL L n = -1 := by unfold szL; rw [if_pos (by omega)]
theorem szL_ok {L : Int} {n : Nat} (h : ¬ szL L n < 0) : szL L n = L - n ∧ 0 ≤ L - n := by
  unfold szL at h ⊢; split at h <;> simp_all <;> omega
theorem szL_le {L : Int} {n : Nat} (h : L ≤ 1048576) : szL L n ≤ 1048576 := by unfold szL; split <;> omega
theorem szL_sub {L : Int} {n : Nat} (h : ¬ szL L n < 0) : ¬ L < 0 := fun c => h (by rw [szL_neg c]; decide)
theorem szL_is {L : Int} {n : Nat} (h : szL L n < 0) : szL L n = -1 := by unfold szL at h ⊢; split at h <;> simp_all <;> omega
end Vg

namespace Vg
open Go Go.Proofs
theorem wr {k : Int} (h0 : 0 ≤ k) (h1 : k ≤ 2199023255552) : IntKind.i64.wrap (k + 1) = k + 1 := wrap_id (by omega) (by omega)
def mkQ (k : Int) (n : Nat) : List V.Ins := (List.range n).map fun i => ⟨k + 4 * (i : Nat), k + 4 * (i : Nat) + 1, k + 4 * (i : Nat) + 1 + 1, k + 4 * (i : Nat) + 1 + 1 + 1⟩
theorem mkQ_len (k : Int) (n : Nat) : (mkQ k n).length = n := by simp [mkQ]
theorem set_getD {α : Type} {l : List α} {i : Nat} {a d : α} (h : i < l.length) : (l.set i a).getD i d = a := by
  simp [List.getD_eq_getElem?_getD, h]
theorem mkQ_step {k : Int} {l : List V.Ins} {i : Nat} (h : (i : Int) < l.length) : (mkQ k i ++ l.drop i).set i ⟨k + 4 * (i : Nat), k + 4 * (i : Nat) + 1, k + 4 * (i : Nat) + 1 + 1, k + 4 * (i : Nat) + 1 + 1 + 1⟩ = mkQ k (i + 1) ++ l.drop (i + 1) := by
  have h' : i < l.length := by omega
  rw [List.set_append_right _ _ (by simp [mkQ])]
  simp only [mkQ, List.length_map, List.length_range, Nat.sub_self, List.drop_eq_getElem_cons h', List.set_cons_zero, List.range_succ, List.map_append, List.map_cons, List.map_nil, List.append_assoc, List.cons_append, List.nil_append]
theorem mkQ_step4 {k k1 k2 k3 : Int} {l : List V.Ins} {i : Nat} (h : (i : Int) < l.length) (h1 : k1 = k + 4 * (i : Nat) + 1) (h2 : k2 = k + 4 * (i : Nat) + 1 + 1) (h3 : k3 = k + 4 * (i : Nat) + 1 + 1 + 1)
    {L1 L2 L3 L4 : List V.Ins} (e4 : L4 = L3.set (i : Int).toNat ⟨(L3.getD (i : Int).toNat K.inss.dflt).op, (L3.getD (i : Int).toNat K.inss.dflt).a, (L3.getD (i : Int).toNat K.inss.dflt).b, k3⟩)
    (e3 : L3 = L2.set (i : Int).toNat ⟨(L2.getD (i : Int).toNat K.inss.dflt).op, (L2.getD (i : Int).toNat K.inss.dflt).a, k2, (L2.getD (i : Int).toNat K.inss.dflt).c⟩)
    (e2 : L2 = L1.set (i : Int).toNat ⟨(L1.getD (i : Int).toNat K.inss.dflt).op, k1, (L1.getD (i : Int).toNat K.inss.dflt).b, (L1.getD (i : Int).toNat K.inss.dflt).c⟩)
    (e1 : L1 = (mkQ k i ++ l.drop i).set (i : Int).toNat ⟨k + 4 * (i : Nat), ((mkQ k i ++ l.drop i).getD (i : Int).toNat K.inss.dflt).a, ((mkQ k i ++ l.drop i).getD (i : Int).toNat K.inss.dflt).b, ((mkQ k i ++ l.drop i).getD (i : Int).toNat K.inss.dflt).c⟩)
    : mkQ k (i + 1) ++ l.drop (i + 1) = L4 := by
  have h' : i < (mkQ k i ++ l.drop i).length := by simp [mkQ]; omega
  rw [Int.toNat_natCast] at e1 e2 e3 e4
  subst h1 h2 h3 e1
  rw [set_getD h', List.set_set] at e2; subst e2
  rw [set_getD h', List.set_set] at e3; subst e3
  rw [set_getD h', List.set_set] at e4; subst e4
  exact (mkQ_step h).symm
theorem mkQ_end {k : Int} {l : List V.Ins} {i : Nat} (h : ¬ (i : Int) < l.length) (hi : i ≤ l.length) : mkQ k i ++ l.drop i = mkQ k l.length := by
  have : i = l.length := by omega
  subst this; simp
theorem mkw1 {k : Int} {i n : Nat} (h0 : 0 ≤ k) (h1 : k ≤ 1099511627776) (hi : i ≤ n) (hn : n ≤ 4194304) : IntKind.i64.wrap (k + 4 * (i : Nat) + 1) = k + 4 * (i : Nat) + 1 := wr (by omega) (by omega)
theorem w2 {k : Int} {i n : Nat} (h0 : 0 ≤ k) (h1 : k ≤ 1099511627776) (hi : i ≤ n) (hn : n ≤ 4194304) : IntKind.i64.wrap (IntKind.i64.wrap (k + 4 * (i : Nat) + 1) + 1) = k + 4 * (i : Nat) + 1 + 1 := by rw [mkw1 h0 h1 hi hn]; exact wr (by omega) (by omega)
theorem w3 {k : Int} {i n : Nat} (h0 : 0 ≤ k) (h1 : k ≤ 1099511627776) (hi : i ≤ n) (hn : n ≤ 4194304) : IntKind.i64.wrap (IntKind.i64.wrap (IntKind.i64.wrap (k + 4 * (i : Nat) + 1) + 1) + 1) = k + 4 * (i : Nat) + 1 + 1 + 1 := by rw [w2 h0 h1 hi hn]; exact wr (by omega) (by omega)
theorem w4 {k : Int} {i n : Nat} (h0 : 0 ≤ k) (h1 : k ≤ 1099511627776) (hi : i ≤ n) (hn : n ≤ 4194304) : IntKind.i64.wrap (IntKind.i64.wrap (IntKind.i64.wrap (IntKind.i64.wrap (k + 4 * (i : Nat) + 1) + 1) + 1) + 1) = k + 4 * ((i + 1 : Nat) : Int) := by rw [w3 h0 h1 hi hn, wr (by omega) (by omega)]; omega
theorem lt_of_midQ {k : Int} {l : List V.Ins} {i : Nat} (h : (i : Int) < ((mkQ k i ++ l.drop i).length : Nat)) : (i : Int) < l.length := by
  simp only [mkQ_len, List.length_append, List.length_drop] at h; omega
set_option maxRecDepth 100000 in
theorem g_markInsS (l : List V.Ins) (k : Int) (h0 : 0 ≤ k) (h1 : k ≤ 1099511627776) (hl : l.length ≤ 4194304) : CallsG Tryz.prog 32 [.row 0, .dat (.i k)] [.row 75 .inss l false] 1 (fun res B => res = .dat (.i (k + 4 * (l.length : Nat))) ∧ B = [.row 75 .inss (mkQ k l.length) false]) := by
  refine CallsG.of_awp tauOk mixOk Tryz.func32 rfl rfl rfl ?_
  conv => whnf
  repeat' (first | ((with_reducible refine fun (K1 : AX → AState → Prop) hK => ?_); refine stK ⟨?_⟩) | ((with_reducible show K1 _ _); subst hK; conv => whnf) | (with_reducible exact rfl) | refine st0 ⟨?_⟩ | ((with_reducible refine SplS.mk (fun h => ?_) (fun h => ?_)) <;> first | exact ctA | (subst h; conv => whnf) | (conv => whnf)) | ((with_reducible refine SplB.mk (fun h => ?_) (fun h => ?_)) <;> first | exact ctA | (conv => whnf)) | (with_reducible first | refine bnd2 ?_ ?_ | refine bnd2' ?_ ?_ | refine bndN ?_ ?_) | ((with_reducible refine and_of ?_ ?_); conv => whnf) | (refine Exists.intro ({i : Nat // i ≤ l.length}) (Exists.intro (fun ⟨i, hi⟩ => mkS Tryz.f32.ntmps [(0, .row 900000), (1, .dat (.i (k + 4 * (i : Nat)))), (5, .dat (.i i))] [(900000, .row 75 .inss (mkQ k i ++ l.drop i) false)]) (Exists.intro (fun ⟨i, hi⟩ => l.length - i) (Exists.intro ⟨0, Nat.zero_le _⟩ (And.intro (SubP.sub (σ := [(900000, some 900000)]) ⟨⟨rfl, rfl, rfl⟩, ⟨rfl, (wk_dat ?_), (wk_dat ?_), trivial⟩, ⟨⟨⟨rfl, rfl⟩, ?_⟩, trivial⟩⟩) (fun ⟨i, hi⟩ => ?_))))); rotate_right; conv => whnf) | (refine Exists.intro ⟨i + 1, ?_⟩ (And.intro ?_ (SubP.sub (σ := [(900000, some 900000)]) ⟨⟨rfl, rfl, rfl⟩, ⟨rfl, (wk_dat ?_), (wk_dat ?_), trivial⟩, ⟨⟨⟨rfl, rfl⟩, ?_⟩, trivial⟩⟩))) | (intro h; conv => whnf))
  all_goals (repeat (clear hK; clear K1))
  all_goals first | rfl | assumption | exact Bool.noConfusion (h.symm.trans hp) | omega | (dsimp only; omega) | exact congrArg (Dat.int .i64) (wrap_succ (by assumption) (by assumption)).symm | (have hb := lt_of_midQ (k := k) (l := l) (i := i) (by assumption); first | omega | (dsimp only; omega) | (subst_vars; simp only [List.length_set, List.length_append, mkQ_len, List.length_drop]; omega) | exact sig_fin (mkQ_step4 hb (mkw1 h0 h1 hi hl) (w2 h0 h1 hi hl) (w3 h0 h1 hi hl) (by assumption) (by assumption) (by assumption) (by assumption))) | exact congrArg (Dat.int .i64) (w4 h0 h1 hi hl).symm | exact row_fin (mkQ_end (by simp only [mkQ_len, List.length_append, List.length_drop] at h; omega) hi) | exact congrArg (fun x => AV.dat (Dat.i x)) (by simp only [mkQ_len, List.length_append, List.length_drop] at h; omega) | exact congrArg Dat.i (by simp)
set_option maxRecDepth 100000 in
theorem g_markProgram (w mem inn : Int) (l : List V.Ins) (k : Int) (h0 : 0 ≤ k) (h1 : k ≤ 1099511627776) (hl : l.length ≤ 4194304) : CallsG Tryz.prog 14 [.agg [.dat (.i w), .dat (.i mem), .dat (.i inn), .row 0], .dat (.i k)] [.row 75 .inss l false] 1 (fun res B => res = .dat (.i (k + 4 * (l.length : Nat))) ∧ B = [.row 75 .inss (mkQ k l.length) false]) := by
  refine CallsG.of_awp tauOk mixOk Tryz.func14 rfl rfl rfl ?_
  conv => whnf
  repeat' (first | ((with_reducible refine fun (K1 : AX → AState → Prop) hK => ?_); refine stK ⟨?_⟩) | ((with_reducible show K1 _ _); subst hK; conv => whnf) | (with_reducible exact rfl) | ((with_reducible refine SplS.mk (fun h => ?_) (fun h => ?_)) <;> first | exact ctA | (subst h; conv => whnf) | (conv => whnf)) | ((with_reducible refine SplB.mk (fun h => ?_) (fun h => ?_)) <;> first | exact ctA | (conv => whnf)) | ((with_reducible refine and_of ?_ ?_); conv => whnf) | ((with_reducible refine gcI (g := 32) ?_); refine ⟨_, _, g_markInsS (h0 := ?_) (h1 := ?_) (hl := ?_) .., fun res B hRB => ?_⟩; rotate_right; obtain ⟨rfl, rfl⟩ := hRB; conv => whnf) | (intro h; conv => whnf))
  all_goals (repeat (clear hK; clear K1))
  all_goals first | rfl | assumption | exact Bool.noConfusion (h.symm.trans hp) | (simp_all []; done) | grind [] | (simp_all []; omega)
end Vg

namespace Vg
open Go Go.Proofs
theorem tree_fin {T : Nat} {κ : K} {l l' : List κ.T} (h : l = l') : [Blk.tree T κ l] = [Blk.tree T κ l'] := by rw [h]
end Vg

namespace Vg
open Go Go.Proofs
theorem mcI {P : Program} {g : Nat} {vs : List AV} {bs : List Blk} {k : Nat} {Q : (AV → List Blk → Prop) → Prop} (h : ∃ R, CallsG P g vs bs k R ∧ Q R) : ∃ R, CallsG P g vs bs k R ∧ Q R := h
end Vg

namespace Vg
open Go Go.Proofs
def mGo : Nat → Nat → ByteArray → ByteArray
  | 0, _, s => s
  | f + 1, k, s => if k = 0 then s else mGo f (k / 10) (⟨#[(48 + k % 10).toUInt8]⟩ ++ s)
def mText (k : Int) : ByteArray := if k ≤ 0 then ⟨#[109, 48]⟩ else ⟨#[109]⟩ ++ mGo (k.toNat + 1) k.toNat ByteArray.empty
theorem mGo_end (f : Nat) (s : ByteArray) : mGo f 0 s = s := by
  cases f with
  | zero => rfl
  | succ f => rw [mGo, if_pos rfl]
theorem mGo_step {f k : Nat} {s : ByteArray} (hk : 0 < k) (hf : k < f) : mGo f k s = mGo (f - 1) (k / 10) (⟨#[(48 + k % 10).toUInt8]⟩ ++ s) := by
  cases f with
  | zero => omega
  | succ f => rw [mGo, if_neg (by omega)]; rfl
mutual
def cntT : V.Term → Nat
  | ⟨_, _, _, _, ks⟩ => 4 + cntTs ks
def cntTs : List V.Term → Nat
  | [] => 0
  | t :: ts => cntT t + cntTs ts
end
mutual
def mkT1 : V.Term → Int → V.Term
  | ⟨_, _, _, _, ks⟩, k => ⟨k, k + 1, k + 2, mText (k + 3), mkT2 ks (k + 4)⟩
def mkT2 : List V.Term → Int → List V.Term
  | [], _ => []
  | t :: ts, k => mkT1 t k :: mkT2 ts (k + cntT t)
end
theorem cntT_eq (t : V.Term) : cntT t = 4 + cntTs t.kids := by cases t; rw [cntT]
theorem mkT1_eq (t : V.Term) (k : Int) : mkT1 t k = ⟨k, k + 1, k + 2, mText (k + 3), mkT2 t.kids (k + 4)⟩ := by cases t; rw [mkT1]
theorem mkT2_len : ∀ (l : List V.Term) (k : Int), (mkT2 l k).length = l.length
  | [], _ => by rw [mkT2]
  | t :: ts, k => by rw [mkT2, List.length_cons, List.length_cons, mkT2_len ts]
theorem cntTs_app : ∀ (a b : List V.Term), cntTs (a ++ b) = cntTs a + cntTs b
  | [], b => by rw [cntTs, List.nil_append, Nat.zero_add]
  | t :: a, b => by rw [List.cons_append, cntTs, cntTs, cntTs_app a b, Nat.add_assoc]
theorem mkT2_app : ∀ (a b : List V.Term) (k : Int), mkT2 (a ++ b) k = mkT2 a k ++ mkT2 b (k + cntTs a)
  | [], b, k => by rw [mkT2, cntTs, List.nil_append, List.nil_append]; congr 1; omega
  | t :: a, b, k => by
    rw [List.cons_append, mkT2, mkT2, List.cons_append, mkT2_app a b, cntTs]
    congr 3
    push_cast
    omega
theorem tk_succ {l : List V.Term} {i : Nat} (h : (i : Int) < l.length) : l.take (i + 1) = l.take i ++ [l.getD i K.terms.dflt] := by
  have h' : i < l.length := by omega
  rw [List.take_succ_eq_append_getElem h', List.getD_eq_getElem?_getD, List.getElem?_eq_getElem h']; rfl
theorem cntTo_step {l : List V.Term} {i : Nat} (h : (i : Int) < l.length) : cntTs (l.take (i + 1)) = cntTs (l.take i) + cntT (l.getD i K.terms.dflt) := by
  rw [tk_succ h, cntTs_app, cntTs, cntTs, Nat.add_zero]
def mkTo (k : Int) (l : List V.Term) (i : Nat) : List V.Term := mkT2 (l.take i) k ++ l.drop i
theorem mkTo_len {k : Int} {l : List V.Term} {i : Nat} (hi : i ≤ l.length) : (mkTo k l i).length = l.length := by
  unfold mkTo
  rw [List.length_append, mkT2_len, List.length_take, List.length_drop]; omega
theorem mkTo_get {k : Int} {l : List V.Term} {i : Nat} (h : (i : Int) < l.length) : (mkTo k l i).getD i K.terms.dflt = l.getD i K.terms.dflt := by
  unfold mkTo
  rw [List.getD_eq_getElem?_getD, List.getElem?_append_right (by rw [mkT2_len, List.length_take]; omega), mkT2_len, List.length_take, List.getElem?_drop, List.getD_eq_getElem?_getD]
  congr 2; omega
theorem mkTo_step {k : Int} {l : List V.Term} {i : Nat} (h : (i : Int) < l.length) : (mkTo k l i).set i (mkT1 (l.getD i K.terms.dflt) (k + cntTs (l.take i))) = mkTo k l (i + 1) := by
  have h' : i < l.length := by omega
  unfold mkTo
  rw [tk_succ h, mkT2_app, mkT2, mkT2, List.set_append_right _ _ (by rw [mkT2_len, List.length_take]; omega), mkT2_len, List.length_take, show i - min i l.length = 0 by omega, List.drop_eq_getElem_cons h', List.set_cons_zero, List.append_assoc]
  rfl
theorem mkTo_end {k : Int} {l : List V.Term} {i : Nat} (h : ¬ (i : Int) < l.length) (hi : i ≤ l.length) : mkTo k l i = mkT2 l k := by
  unfold mkTo
  rw [List.take_of_length_le (by omega), List.drop_eq_nil_of_le (by omega), List.append_nil]
/-! ### sizes -/
mutual
def szT : V.Term → Nat
  | ⟨_, _, _, nm, ks⟩ => nm.size + szTs ks
def szTs : List V.Term → Nat
  | [] => 0
  | t :: ts => 1 + szT t + szTs ts
end
mutual
theorem cnt_sz : ∀ t, cntT t ≤ 4 + 4 * szT t
  | ⟨_, _, _, _, ks⟩ => by
    have := cnts_szs ks
    rw [cntT, szT]; omega
theorem cnts_szs : ∀ l, cntTs l ≤ 4 * szTs l
  | [] => by rw [cntTs]; omega
  | t :: ts => by
    have h1 := cnt_sz t
    have h2 := cnts_szs ts
    rw [cntTs, szTs]; omega
end
theorem len_szs : ∀ l : List V.Term, l.length ≤ szTs l
  | [] => Nat.zero_le _
  | t :: ts => by
    have := len_szs ts
    rw [szTs, List.length_cons]; omega
end Vg
