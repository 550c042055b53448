/- reduce makes a good term simple. Condition: the term is good. -/
import Derived.Test.YtjlffejifadkiaaGreatDoorTermBA
import Derived.Test.YtjlffejifadkiaaGreatDoorTermBB
import Derived.Test.YtjlffejifadkiaaGreatDoorTermBC
import Derived.Test.YtjlffejifadkiaaGreatDoorTermXA
import Derived.Test.YtjlffejifadkiaaGreatDoorTermXC
namespace Vg
open Go Go.Proofs
set_option maxRecDepth 100000
set_option maxHeartbeats 40000000
theorem qj2 (t : V.Term) (ih : IHR (qbe t)) (ht : okT t = true) (ho : 3 ≤ t.op ∧ t.op ≤ 16) (hc : qb2 t.kids = false) :
    CallsV Tryz.prog 188 [.agg [.dat (.i t.op), .dat (.i t.w), .dat (.i t.n), .dat (.str t.name), .dat (.seq .terms t.kids)]] (qbj (mkT t)) := by
  have c : t.op = 3 ∨ t.op = 4 ∨ t.op = 5 ∨ t.op = 6 ∨ t.op = 7 ∨ t.op = 8 ∨ t.op = 9 ∨ t.op = 10 ∨ t.op = 11 ∨ t.op = 12 ∨ t.op = 13 ∨ t.op = 14 ∨ t.op = 15 ∨ t.op = 16 := by omega
  rcases c with h | h | h | h | h | h | h | h | h | h | h | h | h | h <;> rw [h]
  · exact i_rB3 t ih ht h hc
  · exact i_rB4 t ih ht h hc
  · exact i_rB5 t ih ht h hc
  · exact i_rB6 t ih ht h hc
  · exact i_rB7 t ih ht h hc
  · exact i_rB8 t ih ht h hc
  · exact i_rB9 t ih ht h hc
  · exact i_rB10 t ih ht h hc
  · exact i_rB11 t ih ht h hc
  · exact i_rB12 t ih ht h hc
  · exact i_rB13 t ih ht h hc
  · exact i_rB14 t ih ht h hc
  · exact i_rB15 t ih ht h hc
  · exact i_rB16 t ih ht h hc
theorem ap_w {t : V.Term} (ht : okT t = true) (ho : 1 ≤ t.op ∧ t.op ≤ 21) (hc : qb2 t.kids = true) : wordP t.w (apT t (nums t.kids)) = true := by
  refine apT_word ht ho (fun i hi => ?_)
  rw [qc4]
  exact qeg (okT_k ht hi) (qmi hc hi)
theorem allC_0 (ks : List V.Term) : qb2 (ks.take 0) = true := rfl
theorem allC_s {ks : List V.Term} {k : Nat} (hk : k < ks.length) : qb2 (ks.take (k + 1)) = (qb2 (ks.take k) && decide ((kAt ks k).op = 0)) := by
  have e : kAt ks k = ks[k] := by rw [kAt, List.getD_eq_getElem?_getD, List.getElem?_eq_getElem hk]; rfl
  rw [e, List.take_add_one, List.getElem?_eq_getElem hk]
  unfold qb2
  rw [List.all_append]
  simp
theorem ac_t {ks : List V.Term} {k : Nat} (hk : (k : Int) < ks.length) (h : qb2 (ks.take k) = true) : Dat.bool (qb2 (ks.take (k + 1))) = Dat.bool ((ks.getD (k : Int).toNat K.terms.dflt).op == 0) := by
  rw [allC_s omG, h, Bool.true_and]
  congr 1
theorem ac_f {ks : List V.Term} {k : Nat} (hk : (k : Int) < ks.length) (h : qb2 (ks.take k) = false) : Dat.bool (qb2 (ks.take (k + 1))) = Dat.bool false := by
  rw [allC_s omG, h, Bool.false_and]
theorem allC_n {ks : List V.Term} {k : Nat} {b : Bool} (hk : k ≤ ks.length) (h : ¬ (k : Int) < ks.length) (e : qb2 (ks.take k) = b) : qb2 ks = b := by
  rw [List.take_of_length_le omG] at e; exact e
theorem ne_of_len {t : V.Term} (h : ¬ ((t.kids.length : Int) = 0)) : t.kids ≠ [] := fun e => h (by rw [e]; rfl)
theorem i_red0 (t : V.Term) (ih : IHR (qbe t)) (ht : okT t = true) : CallsV Tryz.prog 158 [.agg [.dat (.i t.op), .dat (.i t.w), .dat (.i t.n), .dat (.str t.name), .dat (.seq .terms t.kids)]] (qbj (mkT t)) := by
  refine oV Tryz.func158 ⟨?_⟩
  repeat' (first | ((with_reducible refine fun (K1 : KT) hK => ?_); refine stW ⟨?_⟩) | ((with_reducible show K1 _ _); subst hK; conv => whnf) | (with_reducible refine frG ?_) | (with_reducible exact rfl) | refine st0 ⟨?_⟩ | ((with_reducible refine SplS.mk (fun h => ?_) (fun h => ?_)) <;> first | exact ctM | (subst h; conv => whnf) | (conv => whnf)) | refine stB ⟨?_⟩ ⟨?_⟩ | (refine Exists.intro ({k : Nat // k ≤ t.kids.length}) (Exists.intro (fun ⟨k, hk⟩ => mkS Tryz.f158.ntmps [(1, .ptr 1 0), (2, .ptr 2 0), (3, .dat (.bool (qb2 (t.kids.take k)))), (12, .dat (.i t.kids.length)), (13, .dat (.i k))] [(1, .box [.dat (.i t.op), .dat (.i t.w), .dat (.i t.n), .dat (.str t.name), .dat (.seq .terms t.kids)]), (2, .box [.dat (.i 0), .dat (.i 0), .dat (.i 0), .dat (.str ByteArray.empty), .nils])]) (Exists.intro (fun ⟨k, hk⟩ => t.kids.length - k) (Exists.intro ⟨0, Nat.zero_le _⟩ (And.intro (SubP.sub (σ := [(1, some 1), (2, some 2)]) ⟨⟨rfl, rfl, rfl⟩, ⟨⟨rfl, rfl⟩, ⟨rfl, rfl⟩, (qab ?_), (qab ?_), (qab ?_), trivial⟩, ⟨⟨(qaa ?_), (qaa ?_), (qaa ?_), (qaa ?_), (qaa ?_), trivial⟩, ⟨(qaa ?_), (qaa ?_), (qaa ?_), (qaa ?_), trivial, trivial⟩, trivial⟩⟩) (fun ⟨k, hk⟩ => ?_))))); rotate_right; conv => whnf) | (refine Exists.intro (⟨k + 1, ?_⟩ : {k : Nat // k ≤ t.kids.length}) (And.intro ?_ (SubP.sub (σ := [(1, some 1), (2, some 2)]) ⟨⟨rfl, rfl, rfl⟩, ⟨⟨rfl, rfl⟩, ⟨rfl, rfl⟩, (qab ?_), (qab ?_), (qab ?_), trivial⟩, ⟨⟨(qaa ?_), (qaa ?_), (qaa ?_), (qaa ?_), (qaa ?_), trivial⟩, ⟨(qaa ?_), (qaa ?_), (qaa ?_), (qaa ?_), trivial, trivial⟩, trivial⟩⟩))) | ((with_reducible first | refine pcI (g := 135) ?_ | show Exists _); refine ⟨_, qal .., rfl, ?_⟩; rotate_right; conv => whnf) | ((with_reducible first | refine pcI (g := 103) ?_ | show Exists _); refine ⟨_, i_ConstTerm (h := ?_) .., rfl, ?_⟩; rotate_right; conv => whnf) | ((with_reducible first | refine pcI (g := 68) ?_ | show Exists _); refine ⟨_, i_evA (ht := ?_) (ho := ?_) (hc := ?_) .., rfl, ?_⟩; rotate_right; conv => whnf) | ((with_reducible first | refine pcI (g := 183) ?_ | show Exists _); refine ⟨_, ql6 (ht := ?_) (ho := ?_) (hc := ?_) .., rfl, ?_⟩; rotate_right; conv => whnf) | ((with_reducible first | refine pcI (g := 184) ?_ | show Exists _); refine ⟨_, i_reduceIf (ih := by assumption) (ht := ?_) (ho := ?_) (hc := ?_) .., rfl, ?_⟩; rotate_right; conv => whnf) | ((with_reducible first | refine pcI (g := 185) ?_ | show Exists _); refine ⟨_, qo5 (ih := by assumption) (ht := ?_) (ho := ?_) (hc := ?_) .., rfl, ?_⟩; rotate_right; conv => whnf) | ((with_reducible first | refine pcI (g := 186) ?_ | show Exists _); refine ⟨_, ql5 (ih := by assumption) (ht := ?_) (ho := ?_) (hc := ?_) .., rfl, ?_⟩; rotate_right; conv => whnf) | ((with_reducible first | refine pcI (g := 187) ?_ | show Exists _); refine ⟨_, qnm (ih := by assumption) (ht := ?_) (ho := ?_) (hc := ?_) .., rfl, ?_⟩; rotate_right; conv => whnf) | ((with_reducible first | refine pcI (g := 188) ?_ | show Exists _); refine ⟨_, qj2 (ih := by assumption) (ht := ?_) (ho := ?_) (hc := ?_) .., rfl, ?_⟩; rotate_right; conv => whnf) | (intro h; conv => whnf))
  all_goals repeat clear hK K1
  all_goals first | exact True.intro | ((with_reducible show (_ : Int) ≤ _); omega) | ((with_reducible show (_ : Int) < _); with_reducible assumption) | ((with_reducible show _ < _); (dsimp only; omega)) | (with_reducible exact ac_t asmR asmR) | (with_reducible exact ac_f asmR asmR) | exact congrArg (Dat.int .i64) (qan asmR asmR).symm | ((with_reducible show (_ : Int) = _); with_reducible assumption) | ((with_reducible show _ ≤ _); omega) | (with_reducible exact ih) | (with_reducible exact ht) | ((with_reducible show qb2 _ = false); exact allC_n hk asmR asmR) | ((with_reducible show qb2 _ = true); exact allC_n hk asmR asmR) | ((with_reducible show _ ∨ _); omega) | (have ho := qi0 ht (ne_of_len asmR); first | ((with_reducible show (_ : Int) ≤ _); omega) | exact ap_w ht ho (allC_n hk asmR asmR)) | exact ⟨fr5 ((mkT_leaf omG).trans (V.Term.eta t).symm)⟩ | exact ⟨fr5 ((qgl omG (allC_n hk asmR asmR)).trans rfl)⟩ | exact ⟨fr5 (V.Term.eta _).symm⟩ | exact rfl | skip
theorem ihr_all : ∀ m, IHR m
  | 0 => ⟨fun _ _ _ _ _ _ h => absurd h (Nat.not_lt_zero _)⟩
  | m + 1 => ⟨fun op w n nm ks hk hm => i_red0 ⟨op, w, n, nm, ks⟩ ⟨fun op' w' n' nm' ks' hk' hm' => (ihr_all m).call op' w' n' nm' ks' hk' omG⟩ hk⟩
theorem i_reduce (op w n : Int) (nm : ByteArray) (ks : List V.Term) (hk : okT ⟨op, w, n, nm, ks⟩ = true) :
    CallsV Tryz.prog 158 [.agg [.dat (.i op), .dat (.i w), .dat (.i n), .dat (.str nm), .dat (.seq .terms ks)]] (qbj (mkT ⟨op, w, n, nm, ks⟩)) :=
  (ihr_all (qbe ⟨op, w, n, nm, ks⟩ + 1)).call op w n nm ks hk (Nat.lt_succ_self _)
end Vg
