/- reduce makes a good term simple. Condition: the term is good. -/
import Derived.Test.YtfjkpndogncdcaaGreatDoorTermBA
import Derived.Test.YtfjkpndogncdcaaGreatDoorTermBC
import Derived.Test.YtfjkpndogncdcaaGreatDoorTermXC
import Derived.Test.YtfjkpndogncdcaaGreatDoorTermBD
import Derived.Test.YtfjkpndogncdcaaGreatDoorTermBB
import Derived.Test.YtfjkpndogncdcaaGreatDoorTermXA
namespace Vg
open Go Go.Proofs
set_option maxRecDepth 100000
set_option maxHeartbeats 40000000
theorem qk6 (t : V.Term) (ih : IHR (g5 t)) (ht : okT t = true) (ho : 3 <= t.op /\ t.op <= 16) (hc : y4 t.kids = false) :
    CallsV Tryz.prog 167 [.agg [.dat (.i t.op), .dat (.i t.w), .dat (.i t.n), .dat (.str t.name), .dat (.seq .terms t.kids)]] (s4 (p3 t)) := by
  have c : t.op = 3 \/ t.op = 4 \/ t.op = 5 \/ t.op = 6 \/ t.op = 7 \/ t.op = 8 \/ t.op = 9 \/ t.op = 10 \/ t.op = 11 \/ t.op = 12 \/ t.op = 13 \/ t.op = 14 \/ t.op = 15 \/ t.op = 16 := by omega
  rcases c with h | h | h | h | h | h | h | h | h | h | h | h | h | h <;> rw [h]
  . exact i_rB3 t ih ht h hc
  . exact i_rB4 t ih ht h hc
  . exact i_rB5 t ih ht h hc
  . exact i_rB6 t ih ht h hc
  . exact i_rB7 t ih ht h hc
  . exact i_rB8 t ih ht h hc
  . exact i_rB9 t ih ht h hc
  . exact i_rB10 t ih ht h hc
  . exact i_rB11 t ih ht h hc
  . exact i_rB12 t ih ht h hc
  . exact i_rB13 t ih ht h hc
  . exact i_rB14 t ih ht h hc
  . exact i_rB15 t ih ht h hc
  . exact i_rB16 t ih ht h hc
theorem ap_w {t : V.Term} (ht : okT t = true) (ho : 1 <= t.op /\ t.op <= 21) (hc : y4 t.kids = true) : wordP t.w (m6 t (nums t.kids)) = true := by
  refine qgj ht ho (fun i hi => ?_)
  rw [tD]
  exact const_w (uK ht hi) (kS hc hi)
theorem allC_0 (ks : List V.Term) : y4 (ks.take 0) = true := rfl
theorem qgq {ks : List V.Term} {k : Nat} (hk : k < ks.length) : y4 (ks.take (k + 1)) = (y4 (ks.take k) && decide ((kAt ks k).op = 0)) := by
  have e : kAt ks k = ks[k] := by rw [kAt, List.getD_eq_getElem?_getD, List.getElem?_eq_getElem hk]; rfl
  rw [e, List.take_add_one, List.getElem?_eq_getElem hk]
  unfold y4
  rw [List.all_append]
  simp
theorem ac_t {ks : List V.Term} {k : Nat} (hk : (k : Int) < ks.length) (h : y4 (ks.take k) = true) : Dat.bool (y4 (ks.take (k + 1))) = Dat.bool ((ks.getD (k : Int).toNat K.terms.dflt).op == 0) := by
  rw [qgq omG, h, Bool.true_and]
  congr 1
theorem ac_f {ks : List V.Term} {k : Nat} (hk : (k : Int) < ks.length) (h : y4 (ks.take k) = false) : Dat.bool (y4 (ks.take (k + 1))) = Dat.bool false := by
  rw [qgq omG, h, Bool.false_and]
theorem jS {ks : List V.Term} {k : Nat} {b : Bool} (hk : k <= ks.length) (h : ¬ (k : Int) < ks.length) (e : y4 (ks.take k) = b) : y4 ks = b := by
  rw [List.take_of_length_le omG] at e; exact e
theorem qj1 {t : V.Term} (h : ¬ ((t.kids.length : Int) = 0)) : t.kids ≠ [] := fun e => h (by rw [e]; rfl)
theorem i_red0 (t : V.Term) (ih : IHR (g5 t)) (ht : okT t = true) : CallsV Tryz.prog 127 [.agg [.dat (.i t.op), .dat (.i t.w), .dat (.i t.n), .dat (.str t.name), .dat (.seq .terms t.kids)]] (s4 (p3 t)) := by
  refine oV Tryz.func127 ⟨?_⟩
  repeat' (first | ((with_reducible refine fun (K1 : KT) hK => ?_); refine z2 ⟨?_⟩) | ((with_reducible show K1 _ _); subst hK; conv => whnf) | (with_reducible refine y7 ?_) | (with_reducible exact rfl) | refine st0 ⟨?_⟩ | ((with_reducible refine SplS.mk (fun h => ?_) (fun h => ?_)) <;> first | exact s5 | (subst h; conv => whnf) | (conv => whnf)) | refine s1 ⟨?_⟩ ⟨?_⟩ | (refine l5 ({k : Nat // k <= t.kids.length}) (fun ⟨k, hk⟩ => j5 Tryz.f127.ntmps [(1, .ptr 1 0), (2, .ptr 2 0), (3, .dat (.bool (y4 (t.kids.take k)))), (12, .dat (.i t.kids.length)), (13, .dat (.i k))] [(1, .box [.dat (.i t.op), .dat (.i t.w), .dat (.i t.n), .dat (.str t.name), .dat (.seq .terms t.kids)]), (2, .box [.dat (.i 0), .dat (.i 0), .dat (.i 0), .dat (.str ByteArray.empty), .nils])]) (fun ⟨k, hk⟩ => t.kids.length - k) ⟨0, Nat.zero_le _⟩ (SubP.sub (σ := [(1, some 1), (2, some 2)]) ⟨⟨rfl, rfl, rfl⟩, ⟨rr, rr, o0 ?_, o0 ?_, o0 ?_, trivial⟩, ⟨⟨j0 ?_, j0 ?_, j0 ?_, j0 ?_, j0 ?_, trivial⟩, ⟨j0 ?_, j0 ?_, j0 ?_, j0 ?_, trivial, trivial⟩, trivial⟩⟩) (fun ⟨k, hk⟩ => ?_); rotate_right; conv => whnf) | (refine p5 (⟨k + 1, ?_⟩ : {k : Nat // k <= t.kids.length}) ?_ (SubP.sub (σ := [(1, some 1), (2, some 2)]) ⟨⟨rfl, rfl, rfl⟩, ⟨rr, rr, o0 ?_, o0 ?_, o0 ?_, trivial⟩, ⟨⟨j0 ?_, j0 ?_, j0 ?_, j0 ?_, j0 ?_, trivial⟩, ⟨j0 ?_, j0 ?_, j0 ?_, j0 ?_, trivial, trivial⟩, trivial⟩⟩)) | refine vP (cG ..) ⟨?_⟩ | refine vE (xG (h := ?_) ..) ⟨?_⟩ | refine vE (i_evA (ht := ?_) (ho := ?_) (hc := ?_) ..) ⟨?_⟩ | refine vP (qk1 (ht := ?_) (ho := ?_) (hc := ?_) ..) ⟨?_⟩ | refine vP (qk3 (ih := by assumption) (ht := ?_) (ho := ?_) (hc := ?_) ..) ⟨?_⟩ | refine vP (qk5 (ih := by assumption) (ht := ?_) (ho := ?_) (hc := ?_) ..) ⟨?_⟩ | refine vP (qk0 (ih := by assumption) (ht := ?_) (ho := ?_) (hc := ?_) ..) ⟨?_⟩ | refine vP (qk2 (ih := by assumption) (ht := ?_) (ho := ?_) (hc := ?_) ..) ⟨?_⟩ | refine vP (qk6 (ih := by assumption) (ht := ?_) (ho := ?_) (hc := ?_) ..) ⟨?_⟩ | (intro h; conv => whnf))
  all_goals repeat clear hK K1
  all_goals first | ((with_reducible show (_ : Int) <= _); omega) | ((with_reducible show (_ : Int) < _); with_reducible assumption) | ((with_reducible show _ < _); (dsimp only; omega)) | (with_reducible exact ac_t asmR asmR) | (with_reducible exact ac_f asmR asmR) | exact congrArg (Dat.int .i64) (wrap_succ asmR asmR).symm | ((with_reducible show (_ : Int) = _); with_reducible assumption) | ((with_reducible show _ <= _); omega) | (with_reducible exact ht) | ((with_reducible show y4 _ = false); exact jS hk asmR asmR) | ((with_reducible show y4 _ = true); exact jS hk asmR asmR) | ((with_reducible show _ \/ _); omega) | (have ho := rH ht (qj1 asmR); first | ((with_reducible show (_ : Int) <= _); omega) | exact ap_w ht ho (jS hk asmR asmR)) | exact ⟨j4 ((qca omG).trans (V.Term.eta t).symm)⟩ | exact ⟨j4 ((qQ omG (jS hk asmR asmR)).trans rfl)⟩ | exact ⟨j4 (V.Term.eta _).symm⟩ | exact rfl | skip
theorem qdk : ∀ m, IHR m
  | 0 => ⟨fun _ _ _ _ _ _ h => absurd h (Nat.not_lt_zero _)⟩
  | m + 1 => ⟨fun op w n nm ks hk hm => i_red0 ⟨op, w, n, nm, ks⟩ ⟨fun op' w' n' nm' ks' hk' hm' => (qdk m).call op' w' n' nm' ks' hk' omG⟩ hk⟩
theorem qk7 (op w n : Int) (nm : ByteArray) (ks : List V.Term) (hk : okT ⟨op, w, n, nm, ks⟩ = true) :
    CallsV Tryz.prog 127 [.agg [.dat (.i op), .dat (.i w), .dat (.i n), .dat (.str nm), .dat (.seq .terms ks)]] (s4 (p3 ⟨op, w, n, nm, ks⟩)) :=
  (qdk (g5 ⟨op, w, n, nm, ks⟩ + 1)).call op w n nm ks hk (Nat.lt_succ_self _)
end Vg
