/- Walks and laws that the proof leans on. No condition. -/
import Derived.Test.YtjlffejifadkiaaGreatDoorTermMB
import Derived.Test.YtjlffejifadkiaaGreatDoorTermRd
import Derived.Test.YtjlffejifadkiaaGreatDoorTermMBA
import Derived.Test.YtjlffejifadkiaaGreatDoorTermMBB
import Derived.Test.YtjlffejifadkiaaGreatDoorTermMBC
namespace Vg
open Go Go.Proofs
set_option maxRecDepth 100000
set_option maxHeartbeats 40000000
theorem c0_w {t : V.Term} (ht : okT t = true) (ho : t.op = 17) : (k0 t).op = 0 → (k0 t).n = 0 ∨ (k0 t).n = 1 := by
  intro h
  by_cases c : (k0 t).n = 1
  · exact .inr c
  · exact .inl (j3 (ok0 ht omG) h (fO ht ho).1 c)
theorem s_l02If (t : V.Term) (ih : IHM (f2 t)) (ht : okT t = true) (ho : t.op = 17) (hc : j4 t.kids = false) : CallsV Tryz.prog 165 [.agg [.dat (.i t.op), .dat (.i t.w), .dat (.i t.n), .dat (.str t.name), .dat (.seq .terms t.kids)]] (b4 (u2 t)) := by
  refine oV Tryz.func165 ⟨?_⟩
  repeat' (first | ((with_reducible refine fun (K1 : KT) hK => ?_); refine z1 ⟨?_⟩) | ((with_reducible show K1 _ _); subst hK; conv => whnf) | (with_reducible refine j5 ?_) | (with_reducible exact rfl) | refine r5 ⟨?_⟩ | refine st0 ⟨?_⟩ | ((with_reducible refine SplS.mk (fun h => ?_) (fun h => ?_)) <;> first | exact r0 | (subst h; conv => whnf) | (conv => whnf)) | refine f1 ⟨?_⟩ ⟨?_⟩ | ((with_reducible first | refine n0 (g := 74) ?_ | show Exists _); refine ⟨_, x5 .., rfl, ?_⟩; rotate_right; conv => whnf) | ((with_reducible first | refine n0 (g := 167) ?_ | show Exists _); refine ⟨_, i8 .., rfl, ?_⟩; rotate_right; conv => whnf) | ((with_reducible first | refine n0 (g := 145) ?_ | show Exists _); refine ⟨_, ih_mk (ih := by assumption) (hk := ?_) (hm := ?_) .., rfl, ?_⟩; rotate_right; conv => whnf) | ((with_reducible refine t0 (g := 74) ?_); (conv => whnf); refine ⟨_, _, x5 .., rfl, zV ?_⟩; rotate_right; conv => whnf) | ((with_reducible refine t0 (g := 167) ?_); (conv => whnf); refine ⟨_, _, i8 .., rfl, zV ?_⟩; rotate_right; conv => whnf) | ((with_reducible refine t0 (g := 145) ?_); (conv => whnf); refine ⟨_, _, ih_mk (ih := asmR) (hk := ?_) (hm := ?_) .., rfl, zV ?_⟩; rotate_right; conv => whnf) | (intro h; conv => whnf))
  all_goals repeat clear hK K1
  all_goals first | exact True.intro | ((with_reducible show (_ : Int) ≤ _); omega) | ((with_reducible show (_ : Int) < _); first | exact y7 ht omG | exact bB ht omG | exact aB ht omG | exact zA ht omG | exact y7 (ok0 ht omG) omG | exact d3 (ok0 ht omG) omG | exact g4 (ok0 ht omG) omG | exact bB (ok0 ht omG) omG | exact aB (ok0 ht omG) omG | exact zA (ok0 ht omG) omG | exact y7 (u1 ht omG) omG | exact bB (u1 ht omG) omG | exact aB (u1 ht omG) omG | exact zA (u1 ht omG) omG | omega) | (have q0 := c0_w ht ho; (simp only [V.Term.eta, Int.toNat_zero, Int.toNat_one, tn2, k0, kAt] at *; (try (refine ⟨u0 (t := u2 t) ?_⟩; (try rw [V.Term.eta]))); first | omega | (obtain ⟨y, hr⟩ : ∃ y, z4 t = y := ⟨_, rfl⟩; have hz := hr; unfold z4 jF at hz; simp only [k0, k1, k2, kAt] at hz; (repeat (first | rw [if_pos omG] at hz | rw [if_neg omG] at hz | rw [if_pos (by unfold d4; omega)] at hz | rw [if_neg (by unfold d4; omega)] at hz)); rw [← hz] at hr; (try rw [ho] at hr); first | exact l8 ht omG hc hr | exact ⟨vE (t := u2 t) (l8 ht omG hc hr)⟩ | exact (a8 ht omG hr).1 | exact (a8 ht omG hr).2))) | skip
theorem qe8 (t : V.Term) (ih : IHM (f2 t)) (ht : okT t = true) (ho : t.op = 19) (hc : j4 t.kids = false) : CallsV Tryz.prog 166 [.agg [.dat (.i t.op), .dat (.i t.w), .dat (.i t.n), .dat (.str t.name), .dat (.seq .terms t.kids)]] (b4 (u2 t)) := by
  refine oV Tryz.func166 ⟨?_⟩
  repeat' (first | ((with_reducible refine fun (K1 : KT) hK => ?_); refine z1 ⟨?_⟩) | ((with_reducible show K1 _ _); subst hK; conv => whnf) | (with_reducible refine j5 ?_) | (with_reducible exact rfl) | refine st0 ⟨?_⟩ | ((with_reducible refine SplS.mk (fun h => ?_) (fun h => ?_)) <;> first | exact r0 | (subst h; conv => whnf) | (conv => whnf)) | refine f1 ⟨?_⟩ ⟨?_⟩ | ((with_reducible show Exists _); refine Exists.intro _ (And.intro (s_l02Bit (ih := by assumption) (hk := ?_) (hm := ?_) ..) (And.intro rfl ?_)); rotate_right; conv => whnf) | ((with_reducible show Exists _); refine Exists.intro _ (And.intro (s_l01In ..) (And.intro rfl ?_)); rotate_right; conv => whnf) | (intro h; conv => whnf))
  all_goals repeat clear hK K1
  all_goals first | exact True.intro | ((with_reducible show (_ : Int) ≤ _); omega) | ((with_reducible show (_ : Int) < _); first | exact y7 ht omG | exact d3 ht omG | exact g4 ht omG | exact y7 (ok0 ht omG) omG | exact y7 (ok0 ht omG) (by have h := inP_iff.1 (show inP (t.kids.getD (Int.toNat 0) K.terms.dflt).op 20 21 = true by with_reducible assumption); have e : (t.kids.getD (Int.toNat 0) K.terms.dflt).op = (k0 t).op := rfl; omega) | exact d3 (ok0 ht omG) omG | exact g4 (ok0 ht omG) omG | exact bB (ok0 ht omG) omG | exact aB (ok0 ht omG) omG | exact zA (ok0 ht omG) omG | exact y7 (u1 ht omG) omG | exact d3 (u1 ht omG) omG | exact g4 (u1 ht omG) omG | exact bB (u1 ht omG) omG | exact aB (u1 ht omG) omG | exact zA (u1 ht omG) omG | omega) | (have b0 := nC ht omG; have wt := k8 ht; have w0 := k8 (ok0 ht omG); have c0 := fun h => nC (ok0 ht omG) h; have v0 := fun h => k8 (u1 (ok0 ht omG) h); have v1 := fun h => k8 (ok0 (ok0 ht omG) h); (try simp only [inP, Bool.and_eq_true, Bool.and_eq_false_iff, decide_eq_true_eq, decide_eq_false_iff_not] at *); (simp only [V.Term.eta, Int.toNat_zero, Int.toNat_one, k0, k1, kAt] at *; (try simp only [wrap_id (n := t.n + t.w) omG omG] at *); (try simp only [wrap_id (n := t.n + (t.kids.getD 0 K.terms.dflt).n) omG omG] at *); (try simp only [wrap_id (n := t.n - ((t.kids.getD 0 K.terms.dflt).kids.getD 1 K.terms.dflt).w) omG omG] at *); (try (refine ⟨u0 (t := u2 t) ?_⟩; (try rw [V.Term.eta]))); first | omega | (obtain ⟨y, hr⟩ : ∃ y, z4 t = y := ⟨_, rfl⟩; have hz := hr; unfold z4 kF at hz; simp only [k0, k1, kAt] at hz; (repeat (first | rw [if_pos omG] at hz | rw [if_neg omG] at hz | rw [if_pos (by unfold d4; omega)] at hz | rw [if_neg (by unfold d4; omega)] at hz)); rw [← hz] at hr; (try rw [ho] at hr); first | exact l8 ht omG hc hr | exact ⟨vE (t := u2 t) (l8 ht omG hc hr)⟩ | exact (a8 ht omG hr).1 | exact (a8 ht omG hr).2))) | skip
theorem qe0 (t : V.Term) (ih : IHM (f2 t)) (ht : okT t = true) (ho : inP t.op 3 16 = true) (hc : j4 t.kids = false) :
    CallsV Tryz.prog 164 [.agg [.dat (.i t.op), .dat (.i t.w), .dat (.i t.n), .dat (.str t.name), .dat (.seq .terms t.kids)]] (b4 (u2 t)) := by
  rw [inP_iff] at ho
  have c : t.op = 3 ∨ t.op = 4 ∨ t.op = 5 ∨ t.op = 6 ∨ t.op = 7 ∨ t.op = 8 ∨ t.op = 9 ∨ t.op = 10 ∨ t.op = 11 ∨ t.op = 12 ∨ t.op = 13 ∨ t.op = 14 ∨ t.op = 15 ∨ t.op = 16 := by omega
  rcases c with h | h | h | h | h | h | h | h | h | h | h | h | h | h <;> rw [h]
  · exact s_T3 t ih ht h hc
  · exact s_T4 t ih ht h hc
  · exact s_T5 t ih ht h hc
  · exact s_T6 t ih ht h hc
  · exact s_T7 t ih ht h hc
  · exact s_T8 t ih ht h hc
  · exact s_T9 t ih ht h hc
  · exact s_T10 t ih ht h hc
  · exact s_T11 t ih ht h hc
  · exact s_T12 t ih ht h hc
  · exact s_T13 t ih ht h hc
  · exact s_T14 t ih ht h hc
  · exact s_T15 t ih ht h hc
  · exact s_T16 t ih ht h hc
theorem wdK {t : V.Term} (ht : okT t = true) (ho : t.op = 20 ∨ t.op = 21) (h : (k0 t).op = t.op) : oT t.op t.w 0 [k0 (k0 t)] = oT t.op t.w 0 (k0 t).kids := by
  have e := ks1 (jC (ok0 ht omG) omG)
  rw [oT, oT, ← e]
theorem jnK {t : V.Term} (ht : okT t = true) (ho : t.op = 18) (h : (k1 t).op = 19) : oT 19 t.w (k1 t).n [k0 (k1 t)] = oT 19 t.w (k1 t).n (k1 t).kids := by
  have e := ks1 (jC (u1 ht omG) omG)
  rw [oT, oT, ← e]
theorem jn_wrap {t : V.Term} (ht : okT t = true) (h18 : t.op = 18) (h1 : (t.kids.getD (Int.toNat 1) K.terms.dflt).op = 19) :
    IntKind.i64.wrap ((t.kids.getD (Int.toNat 1) K.terms.dflt).n + (t.kids.getD (Int.toNat 1) K.terms.dflt).w) = (t.kids.getD (Int.toNat 1) K.terms.dflt).n + (t.kids.getD (Int.toNat 1) K.terms.dflt).w := by
  have e : (t.kids.getD (Int.toNat 1) K.terms.dflt) = k1 t := rfl
  rw [e] at h1 ⊢
  have c1 := nC (u1 ht omG) h1
  have w1 := k8 (u1 ht omG)
  have v1 := k8 (ok0 (u1 ht omG) omG)
  exact wrap_id omG omG
theorem rS {t : V.Term} {k : Nat} {b : Bool} (hk : k ≤ t.kids.length) (h : ¬ (k : Int) < t.kids.length) (e : (decide ((t.kids.length : Int) > 0) && j4 (t.kids.take k)) = b) (h0 : t.kids ≠ []) : j4 t.kids = b := by
  rw [List.take_of_length_le omG] at e
  have : 0 < t.kids.length := List.length_pos_iff.2 h0
  rw [decide_eq_true omG, Bool.true_and] at e
  exact e
theorem tI {t : V.Term} (ht : okT t = true) : t.kids.length ≤ 3 := by
  have := (r8 ht).len
  unfold k9 at this
  repeat' split at this
  all_goals omega
theorem zZ {t : V.Term} (ht : okT t = true) (ho : 1 ≤ t.op ∧ t.op ≤ 21) : t.kids ≠ [] := by
  intro e
  have h1 := jC ht
  have h2 := dB ht
  have h3 := rA ht
  rw [e] at h1 h2 h3
  simp only [List.length_nil] at h1 h2 h3
  omega
theorem kids_no {t : V.Term} (ht : okT t = true) (ho : ¬ (1 ≤ t.op ∧ t.op ≤ 21)) : t.kids.length = 0 := by
  have := (r8 ht).len
  have h2 := vM ht
  unfold k9 at this
  rw [if_pos omG] at this
  omega
theorem qaq {n a b : Int} (h : inP n a b = false) : ¬ (a ≤ n ∧ n ≤ b) := fun q => by rw [inP_iff.2 q] at h; cases h
theorem kn_y {n : Int} {b : Bool} (h : (decide (n > 0) && b) = true) : n > 0 := by rw [Bool.and_eq_true] at h; exact of_decide_eq_true h.1
theorem mk_bt {ks : List V.Term} {k : Nat} (hk : (k : Int) < ks.length) (h : (decide ((ks.length : Int) > 0) && j4 (ks.take k)) = true) : Dat.bool (decide ((ks.length : Int) > 0) && j4 (ks.take (k + 1))) = Dat.bool ((ks.getD (k : Int).toNat K.terms.dflt).op == 0) := by
  rw [Bool.and_eq_true] at h
  rw [h.1, Bool.true_and]
  exact ac_t hk h.2
theorem mk_bf {ks : List V.Term} {k : Nat} (hk : (k : Int) < ks.length) (h : (decide ((ks.length : Int) > 0) && j4 (ks.take k)) = false) : Dat.bool (decide ((ks.length : Int) > 0) && j4 (ks.take (k + 1))) = Dat.bool false := by
  rw [decide_eq_true omG, Bool.true_and] at h ⊢
  exact ac_f hk h
theorem mk_b0 (ks : List V.Term) : Dat.bool (decide ((ks.length : Int) > 0) && j4 (ks.take 0)) = Dat.bool (decide ((ks.length : Int) > 0)) := by
  rw [allC_0, Bool.and_true]
theorem nums_s {ks : List V.Term} {k : Nat} (hk : (k : Int) < ks.length) : nums (ks.take (k + 1)) = nums (ks.take k) ++ [(ks.getD (k : Int).toNat K.terms.dflt).n] := by
  have h : k < ks.length := by omega
  have e : ks.getD (k : Int).toNat K.terms.dflt = ks[k] := by
    rw [Int.toNat_natCast, List.getD_eq_getElem?_getD, List.getElem?_eq_getElem h]; rfl
  rw [e, List.take_add_one, List.getElem?_eq_getElem h]
  unfold nums
  rw [List.map_append]
  rfl
theorem zL {ks : List V.Term} {k : Nat} (h : ks.length ≤ k) : ks.take k = ks := List.take_of_length_le h
theorem wr_s {k : Nat} (h : k ≤ 3) : Dat.i ((k + 1 : Nat) : Int) = Dat.int IntKind.i64 (IntKind.i64.wrap ((k : Int) + 1)) := by
  rw [wrap_id omG omG]; rfl
theorem fR {ks : List V.Term} {k : Nat} (hk : k ≤ ks.length) : (nums (ks.take k)).length = k := by
  simp [nums]
  omega
theorem s_mk0 (t : V.Term) (ih : IHM (f2 t)) (ht : okT t = true) : CallsV Tryz.prog 145 [.agg [.dat (.i t.op), .dat (.i t.w), .dat (.i t.n), .dat (.str t.name), .dat (.seq .terms t.kids)]] (b4 (u2 t)) := by
  refine oV Tryz.func145 ⟨?_⟩
  repeat' (first | ((with_reducible refine fun (K1 : KT) hK => ?_); refine z1 ⟨?_⟩) | ((with_reducible show K1 _ _); subst hK; conv => whnf) | (with_reducible refine j5 ?_) | (with_reducible exact rfl) | refine st0 ⟨?_⟩ | ((with_reducible refine SplS.mk (fun h => ?_) (fun h => ?_)) <;> first | exact r0 | (subst h; conv => whnf) | (conv => whnf)) | refine f1 ⟨?_⟩ ⟨?_⟩ | (refine Exists.intro ({k : Nat // k ≤ t.kids.length}) (Exists.intro (fun ⟨k, hk⟩ => r4 Tryz.f145.ntmps [(1, .ptr 1 0), (2, .ptr 2 0), (3, .dat (.bool (decide ((t.kids.length : Int) > 0) && j4 (t.kids.take k)))), (4, .row 4), (16, .dat (.seq .terms t.kids)), (17, .dat (.i t.kids.length)), (18, .dat (.i k))] [(1, .box [.dat (.i t.op), .dat (.i t.w), .dat (.i t.n), .dat (.str t.name), .dat (.seq .terms t.kids)]), (2, .box [.dat (.i 0), .dat (.i 0), .dat (.i 0), .dat (.str ByteArray.empty), .nils]), (4, .row 3 .ints (nums (t.kids.take k)) false)]) (Exists.intro (fun ⟨k, hk⟩ => t.kids.length - k) (Exists.intro ⟨0, Nat.zero_le _⟩ (And.intro (SubP.sub (σ := [(1, some 1), (2, some 2), (4, some 14)]) ⟨⟨rfl, rfl, rfl⟩, ⟨⟨rfl, rfl⟩, ⟨rfl, rfl⟩, o0 ?_, rfl, o0 ?_, o0 ?_, o0 ?_, trivial⟩, ⟨⟨j0 ?_, j0 ?_, j0 ?_, j0 ?_, j0 ?_, trivial⟩, ⟨j0 ?_, j0 ?_, j0 ?_, j0 ?_, trivial, trivial⟩, ⟨⟨rfl, rfl⟩, ?_⟩, trivial⟩⟩) (fun ⟨k, hk⟩ => ?_))))); rotate_right; conv => whnf) | (refine Exists.intro (⟨k + 1, ?_⟩ : {k : Nat // k ≤ t.kids.length}) (And.intro ?_ (SubP.sub (σ := [(1, some 1), (2, some 2), (4, some 32)]) ⟨⟨rfl, rfl, rfl⟩, ⟨⟨rfl, rfl⟩, ⟨rfl, rfl⟩, o0 ?_, rfl, o0 ?_, o0 ?_, o0 ?_, trivial⟩, ⟨⟨j0 ?_, j0 ?_, j0 ?_, j0 ?_, j0 ?_, trivial⟩, ⟨j0 ?_, j0 ?_, j0 ?_, j0 ?_, trivial, trivial⟩, ⟨⟨rfl, rfl⟩, ?_⟩, trivial⟩⟩))) | ((with_reducible first | refine n0 (g := 71) ?_ | show Exists _); refine ⟨_, s_l02Const .., rfl, ?_⟩; rotate_right; conv => whnf) | ((with_reducible first | refine n0 (g := 147) ?_ | show Exists _); refine ⟨_, zW (ht := ?_) (ho := ?_) (hx := ?_) .., rfl, ?_⟩; rotate_right; conv => whnf) | ((with_reducible first | refine n0 (g := 38) ?_ | show Exists _); refine ⟨_, s_l01In .., rfl, ?_⟩; rotate_right; conv => whnf) | ((with_reducible first | refine n0 (g := 164) ?_ | show Exists _); refine ⟨_, qe0 (ih := by assumption) (ht := ?_) (ho := ?_) (hc := ?_) .., rfl, ?_⟩; rotate_right; conv => whnf) | ((with_reducible first | refine n0 (g := 165) ?_ | show Exists _); refine ⟨_, s_l02If (ih := by assumption) (ht := ?_) (ho := ?_) (hc := ?_) .., rfl, ?_⟩; rotate_right; conv => whnf) | ((with_reducible first | refine n0 (g := 166) ?_ | show Exists _); refine ⟨_, qe8 (ih := by assumption) (ht := ?_) (ho := ?_) (hc := ?_) .., rfl, ?_⟩; rotate_right; conv => whnf) | ((with_reducible first | refine n0 (g := 145) ?_ | show Exists _); refine ⟨_, ih_mk (ih := by assumption) (hk := ?_) (hm := ?_) .., rfl, ?_⟩; rotate_right; conv => whnf) | ((with_reducible first | refine n0 (g := 167) ?_ | show Exists _); refine ⟨_, i8 .., rfl, ?_⟩; rotate_right; conv => whnf) | (intro h; conv => whnf))
  all_goals repeat clear hK K1
  all_goals first | exact True.intro | ((with_reducible show (_ : Int) ≤ _); first | omega | (have := hH ht (List.ne_nil_of_length_pos (by have := kn_y (show (decide ((t.kids.length : Int) > 0) && j4 (List.take k t.kids)) = true by with_reducible assumption); omega)); omega)) | ((with_reducible show (_ : Int) < _); first | (with_reducible assumption) | exact y7 ht omG | exact d3 ht omG | exact g4 ht omG | exact y7 (ok0 ht omG) omG | exact y7 (u1 ht omG) omG | exact lt_k00 ht omG asmR) | ((with_reducible show (_ : Nat) < _); (dsimp only; omega)) | (with_reducible exact mk_bt asmR asmR) | (with_reducible exact mk_bf asmR asmR) | (with_reducible exact mk_b0 _) | (have l3 := tI ht; exact wr_s omG) | exact congrArg (Sigma.mk K.ints) (nums_s asmR) | ((with_reducible show _ * _ ≤ _); have l3 := tI ht; have l4 := fR (ks := t.kids) hk; rw [l4]; show (k + 1) * 8 ≤ _; omega) | ((with_reducible show _ + _ ≤ _); have l3 := tI ht; have l4 := fR (ks := t.kids) hk; rw [l4]; show k + 1 ≤ 2 ^ 63 - 1; omega) | ((with_reducible show _ ≤ _); omega) | ((with_reducible show (_ : Nat) = _); rw [fR hk]; omega) | ((with_reducible show (_ : Int) = _); with_reducible assumption) | (with_reducible exact ih) | (with_reducible exact ht) | (with_reducible assumption) | ((with_reducible show j4 _ = false); exact rS hk asmR asmR (zZ ht (by first | omega | (have hi := inP_iff.1 (show inP t.op 3 16 = true by with_reducible assumption); omega)))) | ((with_reducible show Dat.i _ = Dat.int _ _); exact rfl) | ((with_reducible show Sigma.mk _ _ = _); exact rfl) | exact ⟨u0 (V.Term.eta _).symm⟩ | (have hp := kn_y (show (decide ((t.kids.length : Int) > 0) && j4 (List.take k t.kids)) = true by with_reducible assumption); rw [zL (ks := t.kids) (k := k) omG]; exact ⟨u0 (fN omG (rS hk asmR asmR (List.ne_nil_of_length_pos omG)))⟩) | (have hi := qaq (show inP t.op 3 16 = false by with_reducible assumption); exact ⟨u0 ((xY (kids_no ht omG)).trans (V.Term.eta _).symm)⟩) | (have hi := qaq (show inP t.op 3 16 = false by with_reducible assumption); have hz0 : 1 ≤ t.op ∧ t.op ≤ 21 := omG; have hc := rS hk asmR asmR (zZ ht hz0); have wt := k8 ht; (try (have jw := jn_wrap ht asmR asmR; simp only [jw] at *; clear jw)); (simp only [V.Term.eta, Int.toNat_zero, Int.toNat_one] at *); (try (refine ⟨u0 (t := u2 t) ?_⟩; (try rw [V.Term.eta]))); obtain ⟨y, hr⟩ : ∃ y, z4 t = y := ⟨_, rfl⟩; have hz := hr; unfold z4 at hz; (repeat (first | rw [if_pos omG] at hz | rw [if_neg omG] at hz)); (first | unfold oE at hz | unfold gF at hz | unfold iF at hz | skip); simp only [k0, k1, kAt] at hz; (repeat (first | rw [if_pos omG] at hz | rw [if_neg omG] at hz)); rw [← hz] at hr; first | exact l8 ht hz0 hc hr | exact (l8 ht hz0 hc hr).trans (congrArg u2 (wdK ht omG asmR)) | exact (l8 ht hz0 hc hr).trans (congrArg u2 (jnK ht omG asmR)) | exact (congrArg okT (wdK ht omG asmR)).symm.trans (a8 ht hz0 hr).1 | exact (congrArg okT (jnK ht omG asmR)).symm.trans (a8 ht hz0 hr).1 | exact (congrArg f2 (wdK ht omG asmR)) ▸ (a8 ht hz0 hr).2 | exact (congrArg f2 (jnK ht omG asmR)) ▸ (a8 ht hz0 hr).2) | skip
theorem qas : ∀ m, IHM m
  | 0 => ⟨fun _ _ _ _ _ _ h => absurd h (Nat.not_lt_zero _)⟩
  | m + 1 => ⟨fun op w n nm ks hk hm => s_mk0 ⟨op, w, n, nm, ks⟩ ⟨fun op' w' n' nm' ks' hk' hm' => (qas m).call op' w' n' nm' ks' hk' omG⟩ hk⟩
theorem qe4 (op w n : Int) (nm : ByteArray) (ks : List V.Term) (hk : okT ⟨op, w, n, nm, ks⟩ = true) :
    CallsV Tryz.prog 145 [.agg [.dat (.i op), .dat (.i w), .dat (.i n), .dat (.str nm), .dat (.seq .terms ks)]] (b4 (u2 ⟨op, w, n, nm, ks⟩)) :=
  (qas (f2 ⟨op, w, n, nm, ks⟩ + 1)).call op w n nm ks hk (Nat.lt_succ_self _)
theorem xC {α : Type} {a x : α} {P : Prop} (h : (a, true) = (x, false)) : P := by simp at h
theorem l9 {α : Type} {a x : α} (h : (a, false) = (x, false)) : x = a := by simp at h; exact h.symm
theorem qf2 : wordP 1 1 = true := by decide
theorem red_no {t x : V.Term} (h : okT t = true) (ho : 1 ≤ t.op ∧ t.op ≤ 21) (hr : z4 t = (x, false)) : okT x = true ∧ x.w = t.w := by
  have a0 := ok0 h ho
  unfold z4 at hr
  by_cases c1 : t.op = 1 ∨ t.op = 2
  · rw [if_pos c1] at hr
    unfold oE at hr
    have e := nH h c1
    rcases k4 hr with ⟨c, hr⟩ | ⟨_, hr⟩
    · obtain rfl := l9 hr
      have f := nH a0 omG
      exact ⟨ok0 a0 omG, by omega⟩
    · obtain rfl := l9 hr; exact ⟨h, rfl⟩
  rw [if_neg c1] at hr
  by_cases c2 : t.op = 17
  · rw [if_pos c2] at hr
    have e := fO h c2
    unfold jF at hr
    rcases k4 hr with ⟨c, hr⟩ | ⟨c, hr⟩
    · obtain rfl := l9 hr; exact ⟨u1 h omG, e.2.1⟩
    rcases k4 hr with ⟨c, hr⟩ | ⟨c, hr⟩
    · obtain rfl := l9 hr; exact ⟨ok2 h omG, e.2.2⟩
    rcases k4 hr with ⟨c, hr⟩ | ⟨c, hr⟩
    · obtain rfl := l9 hr; exact ⟨u1 h omG, e.2.1⟩
    rcases k4 hr with ⟨c, hr⟩ | ⟨c, hr⟩
    · exact xC hr
    rcases k4 hr with ⟨c, hr⟩ | ⟨c, hr⟩
    · obtain rfl := l9 hr; exact ⟨a0, by omega⟩
    rcases k4 hr with ⟨c, hr⟩ | ⟨c, hr⟩
    · exact xC hr
    · obtain rfl := l9 hr; exact ⟨h, rfl⟩
  rw [if_neg c2] at hr
  by_cases c3 : t.op = 19
  · rw [if_pos c3] at hr
    unfold kF at hr
    rcases k4 hr with ⟨c, hr⟩ | ⟨c, hr⟩
    · obtain rfl := l9 hr; exact ⟨a0, c.2.symm⟩
    rcases k4 hr with ⟨c, hr⟩ | ⟨c, hr⟩
    · exact xC hr
    rcases k4 hr with ⟨c, hr⟩ | ⟨c, hr⟩
    · exact xC hr
    rcases k4 hr with ⟨c, hr⟩ | ⟨c, hr⟩
    · exact xC hr
    rcases k4 hr with ⟨c, hr⟩ | ⟨c, hr⟩
    · exact xC hr
    · obtain rfl := l9 hr; exact ⟨h, rfl⟩
  rw [if_neg c3] at hr
  by_cases c4 : t.op = 20 ∨ t.op = 21
  · rw [if_pos c4] at hr
    unfold gF at hr
    rcases k4 hr with ⟨c, hr⟩ | ⟨c, hr⟩
    · obtain rfl := l9 hr; exact ⟨a0, c.symm⟩
    rcases k4 hr with ⟨c, hr⟩ | ⟨c, hr⟩
    · exact xC hr
    · obtain rfl := l9 hr; exact ⟨h, rfl⟩
  rw [if_neg c4] at hr
  by_cases c5 : t.op = 18
  · rw [if_pos c5] at hr
    unfold iF at hr
    rcases k4 hr with ⟨c, hr⟩ | ⟨c, hr⟩
    · exact xC hr
    · obtain rfl := l9 hr; exact ⟨h, rfl⟩
  rw [if_neg c5] at hr
  have a1 := u1 h omG
  have fb := fun q => fit_b h q
  have fr := fun q => oH h q
  unfold p4 at hr
  rcases k4 hr with ⟨c, hr⟩ | ⟨c, hr⟩
  · exact xC hr
  rcases k4 hr with ⟨c, hr⟩ | ⟨c, hr⟩
  · obtain rfl := l9 hr
    refine ⟨a1, ?_⟩
    by_cases q : t.op = 14
    · have := fr omG; omega
    · exact (fb omG).2
  rcases k4 hr with ⟨c, hr⟩ | ⟨c, hr⟩
  · obtain rfl := l9 hr; exact ⟨pA (zero_word (p3 h)), rfl⟩
  rcases k4 hr with ⟨c, hr⟩ | ⟨c, hr⟩
  · obtain rfl := l9 hr
    have := (fb omG).1
    rw [this]
    exact ⟨pA (fY (p3 h)), rfl⟩
  rcases k4 hr with ⟨c, hr⟩ | ⟨c, hr⟩
  · exact xC hr
  rcases k4 hr with ⟨c, hr⟩ | ⟨c, hr⟩
  · obtain rfl := l9 hr; exact ⟨a0, (fb omG).1⟩
  rcases k4 hr with ⟨c, hr⟩ | ⟨c, hr⟩
  · obtain rfl := l9 hr; exact ⟨pA (zero_word rfl), (fr omG).2.symm⟩
  rcases k4 hr with ⟨c, hr⟩ | ⟨c, hr⟩
  · obtain rfl := l9 hr; exact ⟨a0, (fb omG).1⟩
  rcases k4 hr with ⟨c, hr⟩ | ⟨c, hr⟩
  · obtain rfl := l9 hr; exact ⟨pA (zero_word (p3 h)), rfl⟩
  rcases k4 hr with ⟨c, hr⟩ | ⟨c, hr⟩
  · obtain rfl := l9 hr; exact ⟨pA qf2, (fr omG).2.symm⟩
  rcases k4 hr with ⟨c, hr⟩ | ⟨c, hr⟩
  · exact xC hr
  · obtain rfl := l9 hr; exact ⟨h, rfl⟩
theorem red_w {t x : V.Term} (hr : z4 t = (x, true)) : x.w = t.w := by
  unfold z4 at hr
  by_cases c1 : t.op = 1 ∨ t.op = 2
  · rw [if_pos c1] at hr
    unfold oE at hr
    rcases k4 hr with ⟨_, hr⟩ | ⟨_, hr⟩ <;> exact z5 hr
  rw [if_neg c1] at hr
  by_cases c2 : t.op = 17
  · rw [if_pos c2] at hr
    unfold jF at hr
    rcases k4 hr with ⟨c, hr⟩ | ⟨c, hr⟩
    · exact z5 hr
    rcases k4 hr with ⟨c, hr⟩ | ⟨c, hr⟩
    · exact z5 hr
    rcases k4 hr with ⟨c, hr⟩ | ⟨c, hr⟩
    · exact z5 hr
    rcases k4 hr with ⟨c, hr⟩ | ⟨c, hr⟩
    · obtain rfl := w8 hr; rfl
    rcases k4 hr with ⟨c, hr⟩ | ⟨c, hr⟩
    · exact z5 hr
    rcases k4 hr with ⟨c, hr⟩ | ⟨c, hr⟩
    · obtain rfl := w8 hr; exact c.1.symm
    · exact z5 hr
  rw [if_neg c2] at hr
  by_cases c3 : t.op = 19
  · rw [if_pos c3] at hr
    unfold kF at hr
    rcases k4 hr with ⟨c, hr⟩ | ⟨c, hr⟩
    · exact z5 hr
    rcases k4 hr with ⟨c, hr⟩ | ⟨c, hr⟩
    · obtain rfl := w8 hr; rfl
    rcases k4 hr with ⟨c, hr⟩ | ⟨c, hr⟩
    · obtain rfl := w8 hr; rfl
    rcases k4 hr with ⟨c, hr⟩ | ⟨c, hr⟩
    · obtain rfl := w8 hr; rfl
    rcases k4 hr with ⟨c, hr⟩ | ⟨c, hr⟩
    · obtain rfl := w8 hr; rfl
    · exact z5 hr
  rw [if_neg c3] at hr
  by_cases c4 : t.op = 20 ∨ t.op = 21
  · rw [if_pos c4] at hr
    unfold gF at hr
    rcases k4 hr with ⟨c, hr⟩ | ⟨c, hr⟩
    · exact z5 hr
    rcases k4 hr with ⟨c, hr⟩ | ⟨c, hr⟩
    · obtain rfl := w8 hr; rfl
    · exact z5 hr
  rw [if_neg c4] at hr
  by_cases c5 : t.op = 18
  · rw [if_pos c5] at hr
    unfold iF at hr
    rcases k4 hr with ⟨c, hr⟩ | ⟨c, hr⟩
    · obtain rfl := w8 hr; rfl
    · exact z5 hr
  rw [if_neg c5] at hr
  unfold p4 at hr
  rcases k4 hr with ⟨c, hr⟩ | ⟨c, hr⟩
  · obtain rfl := w8 hr; rfl
  rcases k4 hr with ⟨c, hr⟩ | ⟨c, hr⟩
  · exact z5 hr
  rcases k4 hr with ⟨c, hr⟩ | ⟨c, hr⟩
  · exact z5 hr
  rcases k4 hr with ⟨c, hr⟩ | ⟨c, hr⟩
  · exact z5 hr
  rcases k4 hr with ⟨c, hr⟩ | ⟨c, hr⟩
  · obtain rfl := w8 hr; rfl
  rcases k4 hr with ⟨c, hr⟩ | ⟨c, hr⟩
  · exact z5 hr
  rcases k4 hr with ⟨c, hr⟩ | ⟨c, hr⟩
  · exact z5 hr
  rcases k4 hr with ⟨c, hr⟩ | ⟨c, hr⟩
  · exact z5 hr
  rcases k4 hr with ⟨c, hr⟩ | ⟨c, hr⟩
  · exact z5 hr
  rcases k4 hr with ⟨c, hr⟩ | ⟨c, hr⟩
  · exact z5 hr
  rcases k4 hr with ⟨c, hr⟩ | ⟨c, hr⟩
  · obtain rfl := w8 hr; rfl
  · exact z5 hr
theorem rR : ∀ (f : Nat) (t : V.Term), okT t = true → okT (j9 f t) = true ∧ (j9 f t).w = t.w
  | 0, t, h => ⟨h, rfl⟩
  | f + 1, t, h => by
    rw [j9]
    by_cases c1 : t.kids.length = 0
    · rw [if_pos c1]; exact ⟨h, rfl⟩
    rw [if_neg c1]
    have ho : 1 ≤ t.op ∧ t.op ≤ 21 := hH h (fun e => c1 (by rw [e]; rfl))
    by_cases c2 : j4 t.kids = true
    · rw [if_pos c2]; exact ⟨pA (ap_w h ho c2), rfl⟩
    rw [if_neg c2]
    by_cases c3 : (z4 t).2 = true
    · rw [if_pos c3]
      have h1 := a8 (x := (z4 t).1) h ho (Prod.ext rfl c3)
      have h2 := red_w (x := (z4 t).1) (Prod.ext rfl c3)
      have h3 := rR f _ h1.1
      exact ⟨h3.1, h3.2.trans h2⟩
    · rw [if_neg c3]
      exact red_no (x := (z4 t).1) h ho (Prod.ext rfl (by simpa using c3))
theorem wY {t : V.Term} (h : okT t = true) : okT (u2 t) = true := (rR _ t h).1
theorem mkT_w {t : V.Term} (h : okT t = true) : (u2 t).w = t.w := (rR _ t h).2
theorem qgz {s : ByteArray} (h : isNameP s = true) : s.size ≤ 8 := by
  rw [isNameP, Bool.and_eq_true, inP_iff] at h
  omega
mutual
theorem okT_nmT : ∀ {t : V.Term}, okT t = true → nmT t = true
  | ⟨op, w, n, nm, ks⟩, h => by
    have h1 := eR h
    have h2 : nm.size ≤ 1048576 := by
      by_cases e : op = 22
      · rw [qE, Bool.and_eq_true, Bool.and_eq_true] at h
        have := h.1.2
        simp only [e, decide_true, Bool.not_true, Bool.false_or] at this
        have := qgz this
        omega
      · rw [show nm = ByteArray.empty from bK h e]; decide
    rw [eN, Bool.and_eq_true]
    exact ⟨decide_eq_true h2, fH h1⟩
theorem fH : ∀ {ks : List V.Term}, okTs ks = true → q9 ks = true
  | [], _ => by rw [q9]
  | t :: ts, h => by
    rw [okTs, Bool.and_eq_true] at h
    rw [q9, okT_nmT h.1, fH h.2]; rfl
end
theorem nmT_o {op w n : Int} {ks : List V.Term} (h : q9 ks = true) : nmT (oT op w n ks) = true := by
  rw [eN, Bool.and_eq_true]
  exact ⟨decide_eq_true (by show ByteArray.empty.size ≤ 1048576; decide), h⟩
theorem termP_ok {t : V.Term} (h : z6 t = true) : okT t = true := by
  unfold z6 at h
  simp only [Bool.and_eq_true] at h
  exact h.1.2
/-! ### making a term -/
noncomputable def s1 (op w n : Int) (ks : List V.Term) : V.Term × Bool := if z6 (oT op w n ks) = true then (u2 (oT op w n ks), true) else (zT, false)
theorem qR {op w n : Int} {ks : List V.Term} (h : z6 (oT op w n ks) = false) : s1 op w n ks = (zT, false) := by unfold s1; rw [if_neg (by rw [h]; decide)]
theorem pR {op w n : Int} {ks : List V.Term} (h : z6 (oT op w n ks) = true) : s1 op w n ks = (u2 (oT op w n ks), true) := by unfold s1; rw [if_pos h]
theorem mp_y {B : List Blk} {X : AV} {op w n : Int} {ks : List V.Term} (h : ∀ y, s1 op w n ks = y → frzM B (b4 y.1) X) : frzM B (b4 (s1 op w n ks).1) X := h _ rfl
theorem mp_b {B : List Blk} {X : AV} {op w n : Int} {ks : List V.Term} (h : ∀ y, s1 op w n ks = y → frzM B (.dat (.bool y.2)) X) : frzM B (.dat (.bool (s1 op w n ks).2)) X := h _ rfl
theorem aE (op w n : Int) (ks : List V.Term) : CallsV Tryz.prog 136 [.dat (.i op), .dat (.i w), .dat (.i n), .dat (.seq .terms ks)] (.tup [b4 (s1 op w n ks).1, .dat (.bool (s1 op w n ks).2)]) := by
  refine oV Tryz.func136 ⟨?_⟩
  repeat' (first | ((with_reducible refine fun (K1 : KT) hK => ?_); refine l5 ⟨?_⟩) | ((with_reducible show K1 _ _); subst hK; conv => whnf) | (with_reducible exact rfl) | refine st0 ⟨?_⟩ | ((with_reducible refine SplS.mk (fun h => ?_) (fun h => ?_)) <;> first | exact r0 | (subst h; conv => whnf) | (conv => whnf)) | refine f1 ⟨?_⟩ ⟨?_⟩ | ((with_reducible first | refine n0 (g := 157) ?_ | show Exists _); refine ⟨_, qhn .., rfl, ?_⟩; rotate_right; conv => whnf) | ((with_reducible first | refine n0 (g := 158) ?_ | show Exists _); refine ⟨_, qhf (hk := ?_) .., rfl, ?_⟩; rotate_right; conv => whnf) | (intro h; conv => whnf))
  all_goals repeat clear hK K1
  all_goals first | exact True.intro | exact termP_ok asmR | ((first | refine mp_y fun y hz => ?_ | refine mp_b fun y hz => ?_); (first | rw [qR asmR] at hz | rw [pR asmR] at hz); subst hz; first | exact rfl | exact fr5M (V.Term.eta _).symm | exact fr5M rfl | exact fr5Mn rfl) | skip
theorem gY {ks : List V.Term} {k : Nat} (h : (k : Int) < ks.length) (hk : okTs ks = true) : okT ⟨(ks.getD (k : Int).toNat K.terms.dflt).op, (ks.getD (k : Int).toNat K.terms.dflt).w, (ks.getD (k : Int).toNat K.terms.dflt).n, (ks.getD (k : Int).toNat K.terms.dflt).name, (ks.getD (k : Int).toNat K.terms.dflt).kids⟩ = true := by
  rw [V.Term.eta]
  exact sD (i := k) hk omG
theorem sz_at : ∀ {ks : List V.Term} {i : Nat}, i < ks.length → sizeT (kAt ks i) ≤ i6 ks
  | t :: ts, 0, _ => by rw [i6]; show sizeT t ≤ _; omega
  | t :: ts, i + 1, h => by
    have := sz_at (ks := ts) (i := i) (by simpa using h)
    rw [i6]
    show sizeT (kAt ts i) ≤ _
    omega
theorem sz_kid {t : V.Term} {k : Nat} (h : (k : Int) < t.kids.length) : sizeT ⟨(t.kids.getD (k : Int).toNat K.terms.dflt).op, (t.kids.getD (k : Int).toNat K.terms.dflt).w, (t.kids.getD (k : Int).toNat K.terms.dflt).n, (t.kids.getD (k : Int).toNat K.terms.dflt).name, (t.kids.getD (k : Int).toNat K.terms.dflt).kids⟩ < sizeT t := by
  rw [V.Term.eta, xG t]
  have := sz_at (ks := t.kids) (i := k) omG
  show sizeT (kAt t.kids k) < _
  omega
theorem uV {ks : List V.Term} {k : Nat} (h : (k : Int) < ks.length) : ks.take (k + 1) = ks.take k ++ [⟨(ks.getD (k : Int).toNat K.terms.dflt).op, (ks.getD (k : Int).toNat K.terms.dflt).w, (ks.getD (k : Int).toNat K.terms.dflt).n, (ks.getD (k : Int).toNat K.terms.dflt).name, (ks.getD (k : Int).toNat K.terms.dflt).kids⟩] := by
  have hk : k < ks.length := by omega
  have e : ks.getD (k : Int).toNat K.terms.dflt = ks[k] := by
    rw [Int.toNat_natCast, List.getD_eq_getElem?_getD, List.getElem?_eq_getElem hk]; rfl
  rw [V.Term.eta, e, List.take_add_one, List.getElem?_eq_getElem hk]
  rfl
theorem xL {ks : List V.Term} {k : Nat} (hk : k ≤ ks.length) : (ks.take k).length = k := by simp; omega
structure IHCp (t : V.Term) : Prop where
  call : ∀ (op w n : Int) (nm : ByteArray) (ks : List V.Term), okT ⟨op, w, n, nm, ks⟩ = true → sizeT ⟨op, w, n, nm, ks⟩ < sizeT t →
    CallsV Tryz.prog 143 [.agg [.dat (.i op), .dat (.i w), .dat (.i n), .dat (.str nm), .dat (.seq .terms ks)]] (b4 ⟨op, w, n, nm, ks⟩)
theorem ih_cp {t : V.Term} (ih : IHCp t) {op w n : Int} {nm : ByteArray} {ks : List V.Term} (hk : okT ⟨op, w, n, nm, ks⟩ = true) (hm : sizeT ⟨op, w, n, nm, ks⟩ < sizeT t) :
    CallsV Tryz.prog 143 [.agg [.dat (.i op), .dat (.i w), .dat (.i n), .dat (.str nm), .dat (.seq .terms ks)]] (b4 ⟨op, w, n, nm, ks⟩) := ih.call op w n nm ks hk hm
theorem s_Copy0 (t : V.Term) (ih : IHCp t) (ht : okT t = true) : CallsV Tryz.prog 143 [.agg [.dat (.i t.op), .dat (.i t.w), .dat (.i t.n), .dat (.str t.name), .dat (.seq .terms t.kids)]] (b4 t) := by
  refine oV Tryz.func143 ⟨?_⟩
  repeat' (first | ((with_reducible refine fun (K1 : KT) hK => ?_); refine l5 ⟨?_⟩) | ((with_reducible show K1 _ _); subst hK; conv => whnf) | (with_reducible refine j5 ?_) | (with_reducible exact rfl) | refine st0 ⟨?_⟩ | ((with_reducible refine SplS.mk (fun h => ?_) (fun h => ?_)) <;> first | exact r0 | (subst h; conv => whnf) | (conv => whnf)) | refine f1 ⟨?_⟩ ⟨?_⟩ | (refine Exists.intro ({k : Nat // k ≤ t.kids.length}) (Exists.intro (fun ⟨k, hk⟩ => r4 Tryz.f143.ntmps [(1, .ptr 1 0), (2, .ptr 2 0), (3, .row 3), (8, .dat (.seq .terms t.kids)), (9, .dat (.i t.kids.length)), (10, .dat (.i k))] [(1, .box [.dat (.i t.op), .dat (.i t.w), .dat (.i t.n), .dat (.str t.name), .dat (.seq .terms t.kids)]), (2, .box [.dat (.i 0), .dat (.i 0), .dat (.i 0), .dat (.str ByteArray.empty), .nils]), (3, .row 108 .terms (t.kids.take k) false)]) (Exists.intro (fun ⟨k, hk⟩ => t.kids.length - k) (Exists.intro ⟨0, Nat.zero_le _⟩ (And.intro (SubP.sub (σ := [(1, some 1), (2, some 2), (3, some 6)]) ⟨⟨rfl, rfl, rfl⟩, ⟨⟨rfl, rfl⟩, ⟨rfl, rfl⟩, rfl, o0 ?_, o0 ?_, o0 ?_, trivial⟩, ⟨⟨j0 ?_, j0 ?_, j0 ?_, j0 ?_, j0 ?_, trivial⟩, ⟨j0 ?_, j0 ?_, j0 ?_, j0 ?_, trivial, trivial⟩, ⟨⟨rfl, rfl⟩, ?_⟩, trivial⟩⟩) (fun ⟨k, hk⟩ => ?_))))); rotate_right; conv => whnf) | (refine Exists.intro (⟨k + 1, ?_⟩ : {k : Nat // k ≤ t.kids.length}) (And.intro ?_ (SubP.sub (σ := [(1, some 1), (2, some 2), (3, some 18)]) ⟨⟨rfl, rfl, rfl⟩, ⟨⟨rfl, rfl⟩, ⟨rfl, rfl⟩, rfl, o0 ?_, o0 ?_, o0 ?_, trivial⟩, ⟨⟨j0 ?_, j0 ?_, j0 ?_, j0 ?_, j0 ?_, trivial⟩, ⟨j0 ?_, j0 ?_, j0 ?_, j0 ?_, trivial, trivial⟩, ⟨⟨rfl, rfl⟩, ?_⟩, trivial⟩⟩))) | ((with_reducible first | refine n0 (g := 143) ?_ | show Exists _); refine ⟨_, ih_cp (ih := by assumption) (hk := ?_) (hm := ?_) .., rfl, ?_⟩; rotate_right; conv => whnf) | (intro h; conv => whnf))
  all_goals repeat clear hK K1
  all_goals first | exact True.intro | ((with_reducible show (_ : Int) ≤ _); omega) | ((with_reducible show (_ : Int) < _); with_reducible assumption) | ((with_reducible show okT _ = true); exact gY asmR (eR ht)) | ((with_reducible show sizeT _ < _); exact sz_kid asmR) | ((with_reducible show (_ : Nat) < _); (dsimp only; omega)) | (have l3 := tI ht; exact wr_s omG) | exact congrArg (Sigma.mk K.terms) ((uV asmR).trans rfl) | ((with_reducible show _ * _ ≤ _); have l3 := tI ht; have l4 := xL (ks := t.kids) hk; rw [l4]; exact Nat.le_trans (Nat.mul_le_mul_right _ (show k + 1 ≤ 4 by omega)) (by decide)) | ((with_reducible show _ + _ ≤ _); have l3 := tI ht; have l4 := xL (ks := t.kids) hk; rw [l4]; show k + 1 ≤ 2 ^ 63 - 1; omega) | ((with_reducible show _ ≤ _); omega) | (with_reducible assumption) | exact rfl | exact ⟨rfl, rfl, rfl, rfl, congrArg (Dat.seq K.terms) (zL (ks := t.kids) (k := k) omG).symm, True.intro⟩ | exact ⟨rfl, rfl, rfl, rfl, rfl, True.intro⟩ | exact ⟨⟨rfl, rfl, rfl, rfl, congrArg (Dat.seq K.terms) (zL (ks := t.kids) (k := k) omG).symm, True.intro⟩⟩ | skip
theorem yW (op w n : Int) (nm : ByteArray) (ks : List V.Term) (hk : okT ⟨op, w, n, nm, ks⟩ = true) :
    CallsV Tryz.prog 143 [.agg [.dat (.i op), .dat (.i w), .dat (.i n), .dat (.str nm), .dat (.seq .terms ks)]] (b4 ⟨op, w, n, nm, ks⟩) := by
  have key : ∀ (k : Nat) (t : V.Term), sizeT t < k → okT t = true →
      CallsV Tryz.prog 143 [.agg [.dat (.i t.op), .dat (.i t.w), .dat (.i t.n), .dat (.str t.name), .dat (.seq .terms t.kids)]] (b4 t) := by
    intro k
    induction k with
    | zero => intro t h; exact absurd h (Nat.not_lt_zero _)
    | succ k ih =>
      intro t h ht
      exact s_Copy0 t ⟨fun op w n nm ks hk hs => ih ⟨op, w, n, nm, ks⟩ omG hk⟩ ht
  exact key _ ⟨op, w, n, nm, ks⟩ (Nat.lt_succ_self _) hk
theorem okT_mk (t : V.Term) (h : okT t = true) : okT ⟨(u2 t).op, (u2 t).w, (u2 t).n, (u2 t).name, (u2 t).kids⟩ = true := by
  rw [V.Term.eta]; exact wY h
theorem s_MakeTerm (op w n : Int) (ks : List V.Term) (hn : q9 ks = true) : CallsV Tryz.prog 118 [.dat (.i op), .dat (.i w), .dat (.i n), .dat (.seq .terms ks)] (.tup [b4 (s1 op w n ks).1, .dat (.bool (s1 op w n ks).2)]) := by
  refine oV Tryz.func118 ⟨?_⟩
  repeat' (first | ((with_reducible refine fun (K1 : KT) hK => ?_); refine l5 ⟨?_⟩) | ((with_reducible show K1 _ _); subst hK; conv => whnf) | (with_reducible exact rfl) | refine st0 ⟨?_⟩ | ((with_reducible refine SplS.mk (fun h => ?_) (fun h => ?_)) <;> first | exact r0 | (subst h; conv => whnf) | (conv => whnf)) | refine f1 ⟨?_⟩ ⟨?_⟩ | ((with_reducible first | refine n0 (g := 144) ?_ | show Exists _); refine ⟨_, aX (hn := ?_) .., rfl, ?_⟩; rotate_right; conv => whnf) | ((with_reducible first | refine n0 (g := 143) ?_ | show Exists _); refine ⟨_, yW (hk := ?_) .., rfl, ?_⟩; rotate_right; conv => whnf) | ((with_reducible first | refine n0 (g := 145) ?_ | show Exists _); refine ⟨_, qe4 (hk := ?_) .., rfl, ?_⟩; rotate_right; conv => whnf) | (intro h; conv => whnf))
  all_goals repeat clear hK K1
  all_goals first | exact True.intro | exact nmT_o hn | exact termP_ok asmR | exact okT_mk _ (termP_ok asmR) | ((first | refine mp_y fun y hz => ?_ | refine mp_b fun y hz => ?_); (first | rw [qR asmR] at hz | rw [pR asmR] at hz); subst hz; first | exact rfl | exact fr5M (V.Term.eta _).symm | exact fr5M rfl | exact fr5Mn rfl) | skip
end Vg
