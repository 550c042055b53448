/- reduce makes a good term simple. Condition: the term is good. -/
import Derived.Test.YtgmpfaennbojaaaGreatTermBA
import Derived.Test.YtgmpfaennbojaaaGreatTermBB
import Derived.Test.YtgmpfaennbojaaaGreatTermBC
import Derived.Test.YtgmpfaennbojaaaGreatTermBD
import Derived.Test.YtgmpfaennbojaaaGreatTermXA
import Derived.Test.YtgmpfaennbojaaaGreatTermXC
namespace Vg
open Go Go.Proofs
theorem i_reduceBinary (t : V.Term) (ih : IHR (meas t)) (ht : okT t = true) (ho : 3 ≤ t.op ∧ t.op ≤ 16) (hc : allC t.kids = false) :
    CallsV Tryz.prog 90 [.agg [.dat (.i t.op), .dat (.i t.w), .dat (.i t.n), .dat (.str t.name), .dat (.seq .terms t.kids)]] (datT (mkT t)) := by
  have c : t.op = 3 ∨ t.op = 4 ∨ t.op = 5 ∨ t.op = 6 ∨ t.op = 7 ∨ t.op = 8 ∨ t.op = 9 ∨ t.op = 10 ∨ t.op = 11 ∨ t.op = 12 ∨ t.op = 13 ∨ t.op = 14 ∨ t.op = 15 ∨ t.op = 16 := by omega
  rcases c with h | h | h | h | h | h | h | h | h | h | h | h | h | h <;> rw [h]
  · exact i_rB3 t ih ht h hc
  · exact i_rB4 t ih ht h hc
  · exact i_rB5 t ih ht h hc
  · exact i_rB6 t ih ht h hc
  · exact i_rB7 t ih ht h hc
  · exact i_rB8 t ih ht h hc
  · exact i_rB9 t ih ht h hc
  · exact i_rB10 t ih ht h hc
  · exact i_rB11 t ih ht h hc
  · exact i_rB12 t ih ht h hc
  · exact i_rB13 t ih ht h hc
  · exact i_rB14 t ih ht h hc
  · exact i_rB15 t ih ht h hc
  · exact i_rB16 t ih ht h hc
theorem ap_w {t : V.Term} (ht : okT t = true) (ho : 1 ≤ t.op ∧ t.op ≤ 21) (hc : allC t.kids = true) : wordP t.w (apT t (nums t.kids)) = true := by
  refine apT_word ht ho (fun i hi => ?_)
  rw [nums_at]
  exact const_w (okT_k ht hi) (allC_at hc hi)
theorem allC_0 (ks : List V.Term) : allC (ks.take 0) = true := rfl
theorem allC_s {ks : List V.Term} {k : Nat} (hk : k < ks.length) : allC (ks.take (k + 1)) = (allC (ks.take k) && decide ((kAt ks k).op = 0)) := by
  have e : kAt ks k = ks[k] := by rw [kAt, List.getD_eq_getElem?_getD, List.getElem?_eq_getElem hk]; rfl
  rw [e, List.take_add_one, List.getElem?_eq_getElem hk]
  unfold allC
  rw [List.all_append]
  simp
theorem ac_t {ks : List V.Term} {k : Nat} (hk : (k : Int) < ks.length) (h : allC (ks.take k) = true) : Dat.bool (allC (ks.take (k + 1))) = Dat.bool ((ks.getD (k : Int).toNat K.terms.dflt).op == 0) := by
  rw [allC_s (by omega), h, Bool.true_and]
  congr 1
theorem ac_f {ks : List V.Term} {k : Nat} (hk : (k : Int) < ks.length) (h : allC (ks.take k) = false) : Dat.bool (allC (ks.take (k + 1))) = Dat.bool false := by
  rw [allC_s (by omega), h, Bool.false_and]
theorem allC_n {ks : List V.Term} {k : Nat} {b : Bool} (hk : k ≤ ks.length) (h : ¬ (k : Int) < ks.length) (e : allC (ks.take k) = b) : allC ks = b := by
  rw [List.take_of_length_le (by omega)] at e; exact e
theorem ne_of_len {t : V.Term} (h : ¬ ((t.kids.length : Int) = 0)) : t.kids ≠ [] := fun e => h (by rw [e]; rfl)
set_option maxHeartbeats 8000000 in
set_option maxRecDepth 100000 in
theorem i_red0 (t : V.Term) (ih : IHR (meas t)) (ht : okT t = true) : CallsV Tryz.prog 66 [.agg [.dat (.i t.op), .dat (.i t.w), .dat (.i t.n), .dat (.str t.name), .dat (.seq .terms t.kids)]] (datT (mkT t)) := by
  refine CallsV.of_awp tauOk mixOk Tryz.func66 rfl rfl rfl ?_
  conv => whnf
  repeat' (first | ((with_reducible refine fun (K1 : AX → AState → Prop) hK => ?_); refine stW ⟨?_⟩) | ((with_reducible show K1 _ _); subst hK; conv => whnf) | (with_reducible refine frG ?_) | (with_reducible exact rfl) | refine st0 ⟨?_⟩ | ((with_reducible refine SplS.mk (fun h => ?_) (fun h => ?_)) <;> first | exact ctA | (subst h; conv => whnf) | (conv => whnf)) | ((with_reducible refine SplB.mk (fun h => ?_) (fun h => ?_)) <;> first | exact ctR | (conv => whnf)) | (with_reducible first | refine bnd2 ?_ ?_ | refine bnd2' ?_ ?_ | refine bndN ?_ ?_) | ((with_reducible refine and_of ?_ ?_); conv => whnf) | (refine Exists.intro ({k : Nat // k ≤ t.kids.length}) (Exists.intro (fun ⟨k, hk⟩ => mkS Tryz.f66.ntmps [(1, .ptr 1 0), (2, .ptr 2 0), (3, .dat (.bool (allC (t.kids.take k)))), (12, .dat (.i t.kids.length)), (13, .dat (.i k))] [(1, .box [.dat (.i t.op), .dat (.i t.w), .dat (.i t.n), .dat (.str t.name), .dat (.seq .terms t.kids)]), (2, .box [.dat (.i 0), .dat (.i 0), .dat (.i 0), .dat (.str ByteArray.empty), .nils])]) (Exists.intro (fun ⟨k, hk⟩ => t.kids.length - k) (Exists.intro ⟨0, Nat.zero_le _⟩ (And.intro (SubP.sub (σ := [(1, some 1), (2, some 2)]) ⟨⟨rfl, rfl, rfl⟩, ⟨⟨rfl, rfl⟩, ⟨rfl, rfl⟩, (wk_dat ?_), (wk_dat ?_), (wk_dat ?_), trivial⟩, ⟨⟨(wkC_dat ?_), (wkC_dat ?_), (wkC_dat ?_), (wkC_dat ?_), (wkC_dat ?_), trivial⟩, ⟨(wkC_dat ?_), (wkC_dat ?_), (wkC_dat ?_), (wkC_dat ?_), trivial, trivial⟩, trivial⟩⟩) (fun ⟨k, hk⟩ => ?_))))); rotate_right; conv => whnf) | (refine Exists.intro (⟨k + 1, ?_⟩ : {k : Nat // k ≤ t.kids.length}) (And.intro ?_ (SubP.sub (σ := [(1, some 1), (2, some 2)]) ⟨⟨rfl, rfl, rfl⟩, ⟨⟨rfl, rfl⟩, ⟨rfl, rfl⟩, (wk_dat ?_), (wk_dat ?_), (wk_dat ?_), trivial⟩, ⟨⟨(wkC_dat ?_), (wkC_dat ?_), (wkC_dat ?_), (wkC_dat ?_), (wkC_dat ?_), trivial⟩, ⟨(wkC_dat ?_), (wkC_dat ?_), (wkC_dat ?_), (wkC_dat ?_), trivial, trivial⟩, trivial⟩⟩))) | ((with_reducible refine pcI (g := 83) ?_); refine ⟨_, i_isConst .., rfl, ?_⟩; rotate_right; conv => whnf) | ((with_reducible show Exists _); refine Exists.intro _ (And.intro (i_isConst ..) (And.intro rfl ?_)); rotate_right; conv => whnf) | ((with_reducible refine pcI (g := 47) ?_); refine ⟨_, i_ConstTerm (h := ?_) .., rfl, ?_⟩; rotate_right; conv => whnf) | ((with_reducible show Exists _); refine Exists.intro _ (And.intro (i_ConstTerm (h := ?_) ..) (And.intro rfl ?_)); rotate_right; conv => whnf) | ((with_reducible refine pcI (g := 84) ?_); refine ⟨_, i_evA (ht := ?_) (ho := ?_) (hc := ?_) .., rfl, ?_⟩; rotate_right; conv => whnf) | ((with_reducible show Exists _); refine Exists.intro _ (And.intro (i_evA (ht := ?_) (ho := ?_) (hc := ?_) ..) (And.intro rfl ?_)); rotate_right; conv => whnf) | ((with_reducible refine pcI (g := 85) ?_); refine ⟨_, i_reduceUnary (ht := ?_) (ho := ?_) (hc := ?_) .., rfl, ?_⟩; rotate_right; conv => whnf) | ((with_reducible show Exists _); refine Exists.intro _ (And.intro (i_reduceUnary (ht := ?_) (ho := ?_) (hc := ?_) ..) (And.intro rfl ?_)); rotate_right; conv => whnf) | ((with_reducible refine pcI (g := 86) ?_); refine ⟨_, i_reduceIf (ih := by assumption) (ht := ?_) (ho := ?_) (hc := ?_) .., rfl, ?_⟩; rotate_right; conv => whnf) | ((with_reducible show Exists _); refine Exists.intro _ (And.intro (i_reduceIf (ih := by assumption) (ht := ?_) (ho := ?_) (hc := ?_) ..) (And.intro rfl ?_)); rotate_right; conv => whnf) | ((with_reducible refine pcI (g := 87) ?_); refine ⟨_, i_reduceCut (ih := by assumption) (ht := ?_) (ho := ?_) (hc := ?_) .., rfl, ?_⟩; rotate_right; conv => whnf) | ((with_reducible show Exists _); refine Exists.intro _ (And.intro (i_reduceCut (ih := by assumption) (ht := ?_) (ho := ?_) (hc := ?_) ..) (And.intro rfl ?_)); rotate_right; conv => whnf) | ((with_reducible refine pcI (g := 88) ?_); refine ⟨_, i_reduceWiden (ih := by assumption) (ht := ?_) (ho := ?_) (hc := ?_) .., rfl, ?_⟩; rotate_right; conv => whnf) | ((with_reducible show Exists _); refine Exists.intro _ (And.intro (i_reduceWiden (ih := by assumption) (ht := ?_) (ho := ?_) (hc := ?_) ..) (And.intro rfl ?_)); rotate_right; conv => whnf) | ((with_reducible refine pcI (g := 89) ?_); refine ⟨_, i_reduceJoin (ih := by assumption) (ht := ?_) (ho := ?_) (hc := ?_) .., rfl, ?_⟩; rotate_right; conv => whnf) | ((with_reducible show Exists _); refine Exists.intro _ (And.intro (i_reduceJoin (ih := by assumption) (ht := ?_) (ho := ?_) (hc := ?_) ..) (And.intro rfl ?_)); rotate_right; conv => whnf) | ((with_reducible refine pcI (g := 90) ?_); refine ⟨_, i_reduceBinary (ih := by assumption) (ht := ?_) (ho := ?_) (hc := ?_) .., rfl, ?_⟩; rotate_right; conv => whnf) | ((with_reducible show Exists _); refine Exists.intro _ (And.intro (i_reduceBinary (ih := by assumption) (ht := ?_) (ho := ?_) (hc := ?_) ..) (And.intro rfl ?_)); rotate_right; conv => whnf) | (intro h; conv => whnf))
  all_goals (repeat (clear hK; clear K1))
  all_goals first | exact True.intro | ((with_reducible show (_ : Int) ≤ _); omega) | ((with_reducible show (_ : Int) < _); with_reducible assumption) | ((with_reducible show _ < _); (dsimp only; omega)) | (with_reducible exact ac_t (by with_reducible assumption) (by with_reducible assumption)) | (with_reducible exact ac_f (by with_reducible assumption) (by with_reducible assumption)) | exact congrArg (Dat.int .i64) (wrap_succ (by with_reducible assumption) (by with_reducible assumption)).symm | ((with_reducible show (_ : Int) = _); with_reducible assumption) | ((with_reducible show _ ≤ _); omega) | (with_reducible exact ih) | (with_reducible exact ht) | ((with_reducible show allC _ = false); exact allC_n hk (by with_reducible assumption) (by with_reducible assumption)) | ((with_reducible show allC _ = true); exact allC_n hk (by with_reducible assumption) (by with_reducible assumption)) | ((with_reducible show _ ∨ _); omega) | (have ho := okT_op' ht (ne_of_len (by with_reducible assumption)); first | ((with_reducible show (_ : Int) ≤ _); omega) | exact ap_w ht ho (allC_n hk (by with_reducible assumption) (by with_reducible assumption))) | exact ⟨fr5 ((mkT_leaf (by omega)).trans (V.Term.eta t).symm)⟩ | exact ⟨fr5 ((mkT_const (by omega) (allC_n hk (by with_reducible assumption) (by with_reducible assumption))).trans rfl)⟩ | exact ⟨fr5 (V.Term.eta _).symm⟩ | exact rfl | skip
theorem ihr_all : ∀ m, IHR m
  | 0 => ⟨fun _ _ _ _ _ _ h => absurd h (Nat.not_lt_zero _)⟩
  | m + 1 => ⟨fun op w n nm ks hk hm => i_red0 ⟨op, w, n, nm, ks⟩ ⟨fun op' w' n' nm' ks' hk' hm' => (ihr_all m).call op' w' n' nm' ks' hk' (by omega)⟩ hk⟩
theorem i_reduce (op w n : Int) (nm : ByteArray) (ks : List V.Term) (hk : okT ⟨op, w, n, nm, ks⟩ = true) :
    CallsV Tryz.prog 66 [.agg [.dat (.i op), .dat (.i w), .dat (.i n), .dat (.str nm), .dat (.seq .terms ks)]] (datT (mkT ⟨op, w, n, nm, ks⟩)) :=
  (ihr_all (meas ⟨op, w, n, nm, ks⟩ + 1)).call op w n nm ks hk (Nat.lt_succ_self _)
end Vg
