/- reduce makes a good term simple. Condition: the term is good. -/
import Derived.Test.YtndmanmhalpjgaaGreatDoorTermBA
import Derived.Test.YtndmanmhalpjgaaGreatDoorTermBB
import Derived.Test.YtndmanmhalpjgaaGreatDoorTermBC
import Derived.Test.YtndmanmhalpjgaaGreatDoorTermXA
import Derived.Test.YtndmanmhalpjgaaGreatDoorTermXC
namespace Vg
open Go Go.Proofs
set_option maxRecDepth 100000
set_option maxHeartbeats 40000000
theorem eZ (t : V.Term) (ih : IHR (d5 t)) (ht : okT t = true) (ho : 3 ≤ t.op ∧ t.op ≤ 16) (hc : o4 t.kids = false) :
    CallsV Tryz.prog 86 [.agg [.dat (.i t.op), .dat (.i t.w), .dat (.i t.n), .dat (.str t.name), .dat (.seq .terms t.kids)]] (s5 (d4 t)) := by
  have c : t.op = 3 ∨ t.op = 4 ∨ t.op = 5 ∨ t.op = 6 ∨ t.op = 7 ∨ t.op = 8 ∨ t.op = 9 ∨ t.op = 10 ∨ t.op = 11 ∨ t.op = 12 ∨ t.op = 13 ∨ t.op = 14 ∨ t.op = 15 ∨ t.op = 16 := by omega
  rcases c with h | h | h | h | h | h | h | h | h | h | h | h | h | h <;> rw [h]
  · exact i_rB3 t ih ht h hc
  · exact i_rB4 t ih ht h hc
  · exact i_rB5 t ih ht h hc
  · exact i_rB6 t ih ht h hc
  · exact i_rB7 t ih ht h hc
  · exact i_rB8 t ih ht h hc
  · exact i_rB9 t ih ht h hc
  · exact i_rB10 t ih ht h hc
  · exact i_rB11 t ih ht h hc
  · exact i_rB12 t ih ht h hc
  · exact i_rB13 t ih ht h hc
  · exact i_rB14 t ih ht h hc
  · exact i_rB15 t ih ht h hc
  · exact i_rB16 t ih ht h hc
theorem ap_w {t : V.Term} (ht : okT t = true) (ho : 1 ≤ t.op ∧ t.op ≤ 21) (hc : o4 t.kids = true) : wordP t.w (q6 t (nums t.kids)) = true := by
  refine qbm ht ho (fun i hi => ?_)
  rw [xA]
  exact lI (sJ ht hi) (nL hc hi)
theorem tV {ks : List V.Term} {k : Nat} (hk : k < ks.length) : o4 (ks.take (k + 1)) = (o4 (ks.take k) && decide ((kAt ks k).op = 0)) := by
  have e : kAt ks k = ks[k] := by rw [kAt, List.getD_eq_getElem?_getD, List.getElem?_eq_getElem hk]; rfl
  rw [e, List.take_add_one, List.getElem?_eq_getElem hk]
  unfold o4
  rw [List.all_append]
  simp
theorem ac_t {ks : List V.Term} {k : Nat} (hk : (k : Int) < ks.length) (h : o4 (ks.take k) = true) : Dat.bool (o4 (ks.take (k + 1))) = Dat.bool ((ks.getD (k : Int).toNat K.terms.dflt).op == 0) := by
  rw [tV omG, h, Bool.true_and]
  congr 1
theorem ac_f {ks : List V.Term} {k : Nat} (hk : (k : Int) < ks.length) (h : o4 (ks.take k) = false) : Dat.bool (o4 (ks.take (k + 1))) = Dat.bool false := by
  rw [tV omG, h, Bool.false_and]
theorem mL {ks : List V.Term} {k : Nat} {b : Bool} (hk : k ≤ ks.length) (h : ¬ (k : Int) < ks.length) (e : o4 (ks.take k) = b) : o4 ks = b := by
  rw [List.take_of_length_le omG] at e; exact e
theorem sX {t : V.Term} (h : ¬ ((t.kids.length : Int) = 0)) : t.kids ≠ [] := fun e => h (by rw [e]; rfl)
theorem i_red0 (t : V.Term) (ih : IHR (d5 t)) (ht : okT t = true) : CallsV Tryz.prog 66 [.agg [.dat (.i t.op), .dat (.i t.w), .dat (.i t.n), .dat (.str t.name), .dat (.seq .terms t.kids)]] (s5 (d4 t)) := by
  refine oV Tryz.func66 ⟨?_⟩
  repeat' (first | ((with_reducible refine fun (K1 : KT) hK => ?_); refine l6 ⟨?_⟩) | ((with_reducible show K1 _ _); subst hK; conv => whnf) | (with_reducible refine f7 ?_) | (with_reducible exact rfl) | refine m0 ⟨?_⟩ | ((with_reducible refine SplS.mk (fun h => ?_) (fun h => ?_)) <;> first | exact z1 | (subst h; conv => whnf) | (conv => whnf)) | refine u2 ⟨?_⟩ ⟨?_⟩ | (refine Exists.intro ({k : Nat // k ≤ t.kids.length}) (Exists.intro (fun ⟨k, hk⟩ => z7 Tryz.f66.ntmps [(1, .ptr 1 0), (2, .ptr 2 0), (3, .dat (.bool (o4 (t.kids.take k)))), (12, .dat (.i t.kids.length)), (13, .dat (.i k))] [(1, .box [.dat (.i t.op), .dat (.i t.w), .dat (.i t.n), .dat (.str t.name), .dat (.seq .terms t.kids)]), (2, .box [.dat (.i 0), .dat (.i 0), .dat (.i 0), .dat (.str ByteArray.empty), .nils])]) (Exists.intro (fun ⟨k, hk⟩ => t.kids.length - k) (Exists.intro ⟨0, Nat.zero_le _⟩ (And.intro (SubP.sub (σ := [(1, some 1), (2, some 2)]) ⟨⟨rfl, rfl, rfl⟩, ⟨⟨rfl, rfl⟩, ⟨rfl, rfl⟩, r0 ?_, r0 ?_, r0 ?_, trivial⟩, ⟨⟨j0 ?_, j0 ?_, j0 ?_, j0 ?_, j0 ?_, trivial⟩, ⟨j0 ?_, j0 ?_, j0 ?_, j0 ?_, trivial, trivial⟩, trivial⟩⟩) (fun ⟨k, hk⟩ => ?_))))); rotate_right; conv => whnf) | (refine Exists.intro (⟨k + 1, ?_⟩ : {k : Nat // k ≤ t.kids.length}) (And.intro ?_ (SubP.sub (σ := [(1, some 1), (2, some 2)]) ⟨⟨rfl, rfl, rfl⟩, ⟨⟨rfl, rfl⟩, ⟨rfl, rfl⟩, r0 ?_, r0 ?_, r0 ?_, trivial⟩, ⟨⟨j0 ?_, j0 ?_, j0 ?_, j0 ?_, j0 ?_, trivial⟩, ⟨j0 ?_, j0 ?_, j0 ?_, j0 ?_, trivial, trivial⟩, trivial⟩⟩))) | ((with_reducible first | refine g0 (g := 79) ?_ | show Exists _); refine ⟨_, x6 .., rfl, ?_⟩; rotate_right; conv => whnf) | ((with_reducible first | refine g0 (g := 50) ?_ | show Exists _); refine ⟨_, v7 (h := ?_) .., rfl, ?_⟩; rotate_right; conv => whnf) | ((with_reducible first | refine g0 (g := 80) ?_ | show Exists _); refine ⟨_, i_evA (ht := ?_) (ho := ?_) (hc := ?_) .., rfl, ?_⟩; rotate_right; conv => whnf) | ((with_reducible first | refine g0 (g := 81) ?_ | show Exists _); refine ⟨_, zY (ht := ?_) (ho := ?_) (hc := ?_) .., rfl, ?_⟩; rotate_right; conv => whnf) | ((with_reducible first | refine g0 (g := 82) ?_ | show Exists _); refine ⟨_, bZ (ih := by assumption) (ht := ?_) (ho := ?_) (hc := ?_) .., rfl, ?_⟩; rotate_right; conv => whnf) | ((with_reducible first | refine g0 (g := 83) ?_ | show Exists _); refine ⟨_, dZ (ih := by assumption) (ht := ?_) (ho := ?_) (hc := ?_) .., rfl, ?_⟩; rotate_right; conv => whnf) | ((with_reducible first | refine g0 (g := 84) ?_ | show Exists _); refine ⟨_, yY (ih := by assumption) (ht := ?_) (ho := ?_) (hc := ?_) .., rfl, ?_⟩; rotate_right; conv => whnf) | ((with_reducible first | refine g0 (g := 85) ?_ | show Exists _); refine ⟨_, aZ (ih := by assumption) (ht := ?_) (ho := ?_) (hc := ?_) .., rfl, ?_⟩; rotate_right; conv => whnf) | ((with_reducible first | refine g0 (g := 86) ?_ | show Exists _); refine ⟨_, eZ (ih := by assumption) (ht := ?_) (ho := ?_) (hc := ?_) .., rfl, ?_⟩; rotate_right; conv => whnf) | (intro h; conv => whnf))
  all_goals repeat clear hK K1
  all_goals first | exact True.intro | ((with_reducible show (_ : Int) ≤ _); omega) | ((with_reducible show (_ : Int) < _); with_reducible assumption) | ((with_reducible show _ < _); (dsimp only; omega)) | (with_reducible exact ac_t asmR asmR) | (with_reducible exact ac_f asmR asmR) | exact congrArg (Dat.int .i64) (wE asmR asmR).symm | ((with_reducible show (_ : Int) = _); with_reducible assumption) | ((with_reducible show _ ≤ _); omega) | (with_reducible exact ih) | (with_reducible exact ht) | ((with_reducible show o4 _ = false); exact mL hk asmR asmR) | ((with_reducible show o4 _ = true); exact mL hk asmR asmR) | ((with_reducible show _ ∨ _); omega) | (have ho := qJ ht (sX asmR); first | ((with_reducible show (_ : Int) ≤ _); omega) | exact ap_w ht ho (mL hk asmR asmR)) | exact ⟨y0 ((uX omG).trans (V.Term.eta t).symm)⟩ | exact ⟨y0 ((cN omG (mL hk asmR asmR)).trans rfl)⟩ | exact ⟨y0 (V.Term.eta _).symm⟩ | exact rfl | skip
theorem zS : ∀ m, IHR m
  | 0 => ⟨fun _ _ _ _ _ _ h => absurd h (Nat.not_lt_zero _)⟩
  | m + 1 => ⟨fun op w n nm ks hk hm => i_red0 ⟨op, w, n, nm, ks⟩ ⟨fun op' w' n' nm' ks' hk' hm' => (zS m).call op' w' n' nm' ks' hk' omG⟩ hk⟩
theorem fZ (op w n : Int) (nm : ByteArray) (ks : List V.Term) (hk : okT ⟨op, w, n, nm, ks⟩ = true) :
    CallsV Tryz.prog 66 [.agg [.dat (.i op), .dat (.i w), .dat (.i n), .dat (.str nm), .dat (.seq .terms ks)]] (s5 (d4 ⟨op, w, n, nm, ks⟩)) :=
  (zS (d5 ⟨op, w, n, nm, ks⟩ + 1)).call op w n nm ks hk (Nat.lt_succ_self _)
end Vg
