/- The reference's words of terms, values of inputs, and whether a path holds: contracts. Conditions: terms are good, all variables have values. -/
import Derived.Test.YtfjkpndogncdcaaGreatDoorEvI
import Derived.Test.YtfjkpndogncdcaaGreatDoorPathX
namespace Vg
open Go Go.Proofs
set_option maxRecDepth 100000
set_option maxHeartbeats 40000000
theorem qik (l : List V.Val) (nm : ByteArray) : CallsV Tryz.prog 114 [.dat (.seq .vals l), .dat (.str nm)] (.dat (.i (x6 l nm))) := by
  refine oV Tryz.func114 ⟨?_⟩
  repeat' (first | ((with_reducible refine fun (K1 : KT) hK => ?_); refine z2 ⟨?_⟩) | ((with_reducible show K1 _ _); subst hK; conv => whnf) | (with_reducible exact rfl) | refine st0 ⟨?_⟩ | ((with_reducible refine SplS.mk (fun h => ?_) (fun h => ?_)) <;> first | exact s5 | (subst h; conv => whnf) | (conv => whnf)) | refine s1 ⟨?_⟩ ⟨?_⟩ | (refine l5 ({i : Nat // FindI l nm i}) (fun ⟨i, hi⟩ => j5 Tryz.f114.ntmps [(1, .dat (.str nm)), (7, .dat (.seq .vals l)), (8, .dat (.i l.length)), (9, .dat (.i i))] []) (fun ⟨i, hi⟩ => l.length - i) ⟨0, find_0⟩ (SubP.sub (σ := []) ⟨⟨rfl, rfl, rfl⟩, ⟨o0 ?_, o0 ?_, o0 ?_, o0 ?_, trivial⟩, trivial⟩) (fun ⟨i, hi⟩ => ?_); rotate_right; conv => whnf) | (refine p5 (⟨i + 1, ?_⟩ : {i : Nat // FindI l nm i}) ?_ (SubP.sub (σ := []) ⟨⟨rfl, rfl, rfl⟩, ⟨o0 ?_, o0 ?_, o0 ?_, o0 ?_, trivial⟩, trivial⟩)) | (intro h; conv => whnf))
  all_goals repeat clear hK K1
  all_goals (try simp only [Int.toNat_natCast] at *)
  all_goals first | ((with_reducible show (_ : Int) <= _); omega) | ((with_reducible show (_ : Int) < _); with_reducible assumption) | ((with_reducible show (_ : Nat) < _); ((try dsimp only); omega)) | exact congrArg (Dat.int .i64) (wrap_succ asmR asmR).symm | exact find_s hi asmR (mM asmR) | exact congrArg Dat.i (qmk hi asmR (gP asmR)) | exact congrArg Dat.i (find_e hi asmR) | exact rfl | skip
theorem frN {B : List Blk} {L : List Nat} {a b : Int} (h : a = b) : frzM B (.dat (.i a)) (AV.numM L (.dat (.int .i64 b))) := by rw [h]; exact rfl
/-! ### words of terms -/
structure IHE2 (L : List V.Val) (σ : ByteArray -> Int) (t : V.Term) : Prop where
  call : ∀ (op w n : Int) (nm : ByteArray) (ks : List V.Term), okT ⟨op, w, n, nm, ks⟩ = true -> VOk L σ ⟨op, w, n, nm, ks⟩ -> sizeT ⟨op, w, n, nm, ks⟩ < sizeT t ->
    CallsV Tryz.prog 77 [.agg [.dat (.i op), .dat (.i w), .dat (.i n), .dat (.str nm), .dat (.seq .terms ks)], .dat (.seq .vals L)] (.tup [.dat (.i (evT σ ⟨op, w, n, nm, ks⟩)), .dat (.bool true)])
theorem ih_e2 {L : List V.Val} {σ : ByteArray -> Int} {t : V.Term} (ih : IHE2 L σ t) {op w n : Int} {nm : ByteArray} {ks : List V.Term} (ht : okT ⟨op, w, n, nm, ks⟩ = true) (hv : VOk L σ ⟨op, w, n, nm, ks⟩) (hs : sizeT ⟨op, w, n, nm, ks⟩ < sizeT t) :
    CallsV Tryz.prog 77 [.agg [.dat (.i op), .dat (.i w), .dat (.i n), .dat (.str nm), .dat (.seq .terms ks)], .dat (.seq .vals L)] (.tup [.dat (.i (evT σ ⟨op, w, n, nm, ks⟩)), .dat (.bool true)]) := ih.call op w n nm ks ht hv hs
theorem vW {σ : ByteArray -> Int} {l : List V.Term} {k : Nat} (h : (k : Int) < l.length) : w5 σ (l.take (k + 1)) = w5 σ (l.take k) ++ [evT σ (kAt l k)] := by
  have hk : k < l.length := by omega
  have e : ∀ a b : List V.Term, w5 σ (a ++ b) = w5 σ a ++ w5 σ b := by
    intro a b
    induction a with
    | nil => rw [w5]; rfl
    | cons x a ih => rw [List.cons_append, w5, w5, ih]; rfl
  rw [List.take_add_one, List.getElem?_eq_getElem hk, e]
  show w5 σ (l.take k) ++ w5 σ [l[k]] = _
  rw [w5, w5, kAt, List.getD_eq_getElem?_getD, List.getElem?_eq_getElem hk]; rfl
theorem jI {σ : ByteArray -> Int} {l : List V.Term} {k : Nat} (h : k <= l.length) : (w5 σ (l.take k)).length = k := by rw [eO, List.length_take]; omega
section
variable {L : List V.Val} {σ : ByteArray -> Int} {t : V.Term}
theorem e2_at {k : Nat} (hv : VOk L σ t) : VOk L σ (t.kids.getD (k : Int).toNat K.terms.dflt) := by rw [Int.toNat_natCast]; exact hv.kid k
theorem e2_ok {k : Nat} (ht : okT t = true) (h : (k : Int) < t.kids.length) : okT (t.kids.getD (k : Int).toNat K.terms.dflt) = true := by rw [Int.toNat_natCast]; exact uK ht omG
theorem e2_end {k : Nat} (h : ¬ (k : Int) < t.kids.length) (h0 : ¬ t.op = 0) (h1 : ¬ t.op = 22) : m6 t (w5 σ (t.kids.take k)) = evT σ t := by
  rw [List.take_of_length_le omG, wB, if_neg h0, if_neg h1]
end
theorem s_e20 (t : V.Term) (L : List V.Val) (σ : ByteArray -> Int) (ih : IHE2 L σ t) (ht : okT t = true) (hv : VOk L σ t) : CallsV Tryz.prog 77 [.agg [.dat (.i t.op), .dat (.i t.w), .dat (.i t.n), .dat (.str t.name), .dat (.seq .terms t.kids)], .dat (.seq .vals L)] (.tup [.dat (.i (evT σ t)), .dat (.bool true)]) := by
  refine oV Tryz.func77 ⟨?_⟩
  repeat' (first | ((with_reducible refine fun (K1 : KT) hK => ?_); refine z2 ⟨?_⟩) | ((with_reducible show K1 _ _); subst hK; conv => whnf) | (with_reducible exact rfl) | refine st0 ⟨?_⟩ | ((with_reducible refine SplS.mk (fun h => ?_) (fun h => ?_)) <;> first | exact s5 | (subst h; conv => whnf) | (conv => whnf)) | refine s1 ⟨?_⟩ ⟨?_⟩ | (refine l5 ({k : Nat // k <= t.kids.length}) (fun ⟨k, hk⟩ => j5 Tryz.f77.ntmps [(1, .dat (.seq .vals L)), (2, .ptr 2 0), (7, .row 7), (43, .dat (.seq .terms t.kids)), (44, .dat (.i t.kids.length)), (45, .dat (.i k))] [(2, .box [.dat (.i t.op), .dat (.i t.w), .dat (.i t.n), .dat (.str t.name), .dat (.seq .terms t.kids)]), (7, .row 3 .ints (w5 σ (t.kids.take k)) false)]) (fun ⟨k, hk⟩ => t.kids.length - k) ⟨0, Nat.zero_le _⟩ (SubP.sub (σ := [(2, some 2), (7, some 41)]) ⟨⟨rfl, rfl, rfl⟩, ⟨o0 ?_, rr, rfl, o0 ?_, o0 ?_, o0 ?_, trivial⟩, ⟨⟨j0 ?_, j0 ?_, j0 ?_, j0 ?_, j0 ?_, trivial⟩, ⟨rr, ?_⟩, trivial⟩⟩) (fun ⟨k, hk⟩ => ?_); rotate_right; conv => whnf) | (refine p5 (⟨k + 1, ?_⟩ : {k : Nat // k <= t.kids.length}) ?_ (SubP.sub (σ := [(2, some 2), (7, some 60)]) ⟨⟨rfl, rfl, rfl⟩, ⟨o0 ?_, rr, rfl, o0 ?_, o0 ?_, o0 ?_, trivial⟩, ⟨⟨j0 ?_, j0 ?_, j0 ?_, j0 ?_, j0 ?_, trivial⟩, ⟨rr, ?_⟩, trivial⟩⟩)) | refine vP (qik ..) ⟨?_⟩ | refine vP (ih_e2 (ih := by assumption) (ht := ?_) (hv := ?_) (hs := ?_) ..) ⟨?_⟩ | refine vP (qas (ht := ?_) (ho := ?_) (hx := ?_) ..) ⟨?_⟩ | (intro h; conv => whnf))
  all_goals repeat clear hK K1
  all_goals (try simp only [V.Term.eta] at *)
  all_goals (have l1 := lD ht; have l2 := jC ht; have l3 := tB ht; have lo := gQ ht)
  all_goals first | (with_reducible assumption) | ((with_reducible show VOk _ _ _); exact e2_at hv) | ((with_reducible show okT _ = true); exact e2_ok ht asmR) | ((with_reducible show sizeT _ < _); exact jH asmR) | (exact Bool.noConfusion (show true = false by assumption)) | ((with_reducible show frzM _ _ _); first | (exfalso; have q := hv.var asmR; first | exact absurd q.2.1 (by assumption) | omega) | exact frB rfl | exact frN (pA asmR) | exact frN ((ei_v asmR).symm.trans (hv.var asmR).2.2.symm) | exact frN (e2_end asmR asmR asmR).symm) | exact congrArg (Dat.int .i64) (wrap_succ asmR asmR).symm | exact congrArg (Sigma.mk K.ints) (vW asmR) | ((with_reducible show (_ : Nat) <= maxLen); rw [jI hk]; show k + 1 <= 2 ^ 63 - 1; omega) | ((with_reducible show _ * _ <= _); rw [jI hk]; show (k + 1) * 8 <= _; omega) | ((with_reducible show (w5 _ _).length = _); rw [jI hk]; omega) | ((with_reducible show (_ : Int) <= _); first | omega | (have q := hv.var asmR; omega)) | ((with_reducible show (_ : Int) < _); first | omega | (have q := hv.var asmR; have q2 := rW L t.name; omega)) | ((with_reducible show (_ : Nat) <= _); omega) | ((with_reducible show (_ : Nat) < _); ((try dsimp only); omega)) | exact rfl | skip
theorem qim (op w n : Int) (nm : ByteArray) (ks : List V.Term) (L : List V.Val) (σ : ByteArray -> Int) (ht : okT ⟨op, w, n, nm, ks⟩ = true) (hv : VOk L σ ⟨op, w, n, nm, ks⟩) :
    CallsV Tryz.prog 77 [.agg [.dat (.i op), .dat (.i w), .dat (.i n), .dat (.str nm), .dat (.seq .terms ks)], .dat (.seq .vals L)] (.tup [.dat (.i (evT σ ⟨op, w, n, nm, ks⟩)), .dat (.bool true)]) := by
  have key : ∀ (k : Nat) (t : V.Term), sizeT t < k -> okT t = true -> VOk L σ t -> CallsV Tryz.prog 77 [.agg [.dat (.i t.op), .dat (.i t.w), .dat (.i t.n), .dat (.str t.name), .dat (.seq .terms t.kids)], .dat (.seq .vals L)] (.tup [.dat (.i (evT σ t)), .dat (.bool true)]) := by
    intro k
    induction k with
    | zero => intro t h; omega
    | succ k ih =>
      intro t h ht hv
      exact s_e20 t L σ ⟨fun op w n nm ks ht' hv' hs => ih ⟨op, w, n, nm, ks⟩ omG ht' hv'⟩ ht hv
  exact key _ ⟨op, w, n, nm, ks⟩ (Nat.lt_succ_self _) ht hv
structure VsOk (L : List V.Val) (σ : ByteArray -> Int) (l : List V.Term) : Prop where
  ok : ∀ t, t ∈ l -> okT t = true
  v : ∀ t, t ∈ l -> VOk L σ t
section
variable {L : List V.Val} {σ : ByteArray -> Int} {l : List V.Term} {k : Nat}
theorem VsOk.o (h : VsOk L σ l) (hk : (k : Int) < l.length) : okT (l.getD (k : Int).toNat K.terms.dflt) = true := by
  rw [Int.toNat_natCast]; exact sD (P := fun t => okT t = true) h.ok omG
theorem VsOk.w (h : VsOk L σ l) (hk : (k : Int) < l.length) : VOk L σ (l.getD (k : Int).toNat K.terms.dflt) := by
  rw [Int.toNat_natCast]; exact sD (P := VOk L σ) h.v omG
end
theorem qil (op w n : Int) (nm : ByteArray) (ks : List V.Term) (L : List V.Val) (σ : ByteArray -> Int) (l : List V.Term) (x : VsOk L σ l) (ht : okT ⟨op, w, n, nm, ks⟩ = true) (hw : VOk L σ ⟨op, w, n, nm, ks⟩) :
    CallsV Tryz.prog 77 [.agg [.dat (.i op), .dat (.i w), .dat (.i n), .dat (.str nm), .dat (.seq .terms ks)], .dat (.seq .vals L)] (.tup [.dat (.i (evT σ ⟨op, w, n, nm, ks⟩)), .dat (.bool true)])   := (fun (_ : VsOk L σ l) => qim op w n nm ks L σ ht hw) x
theorem qh6 (l : List V.Term) (L : List V.Val) (σ : ByteArray -> Int) (hv : VsOk L σ l) (hl : l.length <= 1000) : CallsV Tryz.prog 38 [.dat (.seq .terms l), .dat (.seq .vals L)] (.tup [.dat (.seq .ints (w5 σ l)), .dat (.bool true)]) := by
  refine oV Tryz.func38 ⟨?_⟩
  repeat' (first | ((with_reducible refine fun (K1 : KT) hK => ?_); refine z2 ⟨?_⟩) | ((with_reducible show K1 _ _); subst hK; conv => whnf) | (with_reducible exact rfl) | refine st0 ⟨?_⟩ | ((with_reducible refine SplS.mk (fun h => ?_) (fun h => ?_)) <;> first | exact s5 | (subst h; conv => whnf) | (conv => whnf)) | refine s1 ⟨?_⟩ ⟨?_⟩ | (refine l5 ({k : Nat // k <= l.length}) (fun ⟨k, hk⟩ => j5 Tryz.f38.ntmps [(1, .dat (.seq .vals L)), (6, .row 6), (12, .dat (.seq .terms l)), (13, .dat (.i l.length)), (14, .dat (.i k))] [(6, .row 3 .ints (w5 σ (l.take k)) false)]) (fun ⟨k, hk⟩ => l.length - k) ⟨0, Nat.zero_le _⟩ (SubP.sub (σ := [(6, some 11)]) ⟨⟨rfl, rfl, rfl⟩, ⟨o0 ?_, rfl, o0 ?_, o0 ?_, o0 ?_, trivial⟩, ⟨⟨rr, ?_⟩, trivial⟩⟩) (fun ⟨k, hk⟩ => ?_); rotate_right; conv => whnf) | (refine p5 (⟨k + 1, ?_⟩ : {k : Nat // k <= l.length}) ?_ (SubP.sub (σ := [(6, some 29)]) ⟨⟨rfl, rfl, rfl⟩, ⟨o0 ?_, rfl, o0 ?_, o0 ?_, o0 ?_, trivial⟩, ⟨⟨rr, ?_⟩, trivial⟩⟩)) | refine vP (qil (x := by assumption) (ht := ?_) (hw := ?_) ..) ⟨?_⟩ | (intro h; conv => whnf))
  all_goals repeat clear hK K1
  all_goals (try simp only [V.Term.eta] at *)
  all_goals first | (with_reducible assumption) | ((with_reducible show VOk _ _ _); exact hv.w asmR) | ((with_reducible show okT _ = true); exact hv.o asmR) | (exact Bool.noConfusion (show true = false by assumption)) | ((with_reducible show frzM _ _ _); first | exact frB rfl | (rw [List.take_of_length_le omG]; exact rfl) | (have e : l.take k = l := List.take_of_length_le omG; rw [e]; exact rfl)) | exact congrArg (Dat.int .i64) (wrap_succ asmR asmR).symm | exact congrArg (Sigma.mk K.ints) (vW asmR) | ((with_reducible show (_ : Nat) <= maxLen); rw [jI hk]; show k + 1 <= 2 ^ 63 - 1; omega) | ((with_reducible show _ * _ <= _); rw [jI hk]; show (k + 1) * 8 <= _; omega) | ((with_reducible show (_ : Int) <= _); omega) | ((with_reducible show (_ : Nat) <= _); omega) | ((with_reducible show (_ : Nat) < _); ((try dsimp only); omega)) | exact rfl | skip
theorem qam (w mem inn : Int) (code : List V.Ins) (inp : List Int) (hl : inp.length <= 3) : CallsV Tryz.prog 37 [.agg [.dat (.i w), .dat (.i mem), .dat (.i inn), .dat (.seq .inss code)], .dat (.seq .ints inp)] (.dat (.seq .vals (j7 w inp inp.length))) := by
  refine oV Tryz.func37 ⟨?_⟩
  repeat' (first | ((with_reducible refine fun (K1 : KT) hK => ?_); refine z2 ⟨?_⟩) | ((with_reducible show K1 _ _); subst hK; conv => whnf) | (with_reducible exact rfl) | refine st0 ⟨?_⟩ | ((with_reducible refine SplS.mk (fun h => ?_) (fun h => ?_)) <;> first | exact m4 | (subst h; conv => whnf) | (conv => whnf)) | refine s1 ⟨?_⟩ ⟨?_⟩ | (refine l5 ({k : Nat // k <= inp.length}) (fun ⟨k, hk⟩ => j5 Tryz.f37.ntmps [(2, .ptr 2 0), (5, .row 5), (9, .dat (.seq .ints inp)), (10, .dat (.i inp.length)), (11, .dat (.i k))] [(2, .box [.dat (.i w), .dat (.i mem), .dat (.i inn), .dat (.seq .inss code)]), (5, .row 111 .vals (j7 w inp k) false)]) (fun ⟨k, hk⟩ => inp.length - k) ⟨0, Nat.zero_le _⟩ (SubP.sub (σ := [(2, some 2), (5, some 8)]) ⟨⟨rfl, rfl, rfl⟩, ⟨rr, rfl, o0 ?_, o0 ?_, o0 ?_, trivial⟩, ⟨⟨j0 ?_, j0 ?_, j0 ?_, j0 ?_, trivial⟩, ⟨rr, ?_⟩, trivial⟩⟩) (fun ⟨k, hk⟩ => ?_); rotate_right; conv => whnf) | (refine p5 (⟨k + 1, ?_⟩ : {k : Nat // k <= inp.length}) ?_ (SubP.sub (σ := [(2, some 2), (5, some 25)]) ⟨⟨rfl, rfl, rfl⟩, ⟨rr, rfl, o0 ?_, o0 ?_, o0 ?_, trivial⟩, ⟨⟨j0 ?_, j0 ?_, j0 ?_, j0 ?_, trivial⟩, ⟨rr, ?_⟩, trivial⟩⟩)) | refine vP (qax (h0 := ?_) (h1 := ?_) ..) ⟨?_⟩ | (intro h; conv => whnf))
  all_goals repeat clear hK K1
  all_goals first | (with_reducible assumption) | (have e : inp.length = k := omG; subst e; exact rfl) | exact congrArg (Dat.int .i64) (wrap_succ asmR asmR).symm | exact congrArg (Sigma.mk K.vals) valsTo_s | (show 1 + 1 <= 2 ^ 63 - 1; decide) | ((with_reducible show (_ : Nat) <= maxLen); rw [pG]; show k + 1 <= 2 ^ 63 - 1; omega) | ((with_reducible show _ * _ <= _); rw [pG]; exact Nat.le_trans (Nat.mul_le_mul_right _ (show k + 1 <= 4 by omega)) (by decide)) | ((with_reducible show (_ : Int) <= _); omega) | ((with_reducible show (_ : Nat) <= _); omega) | ((with_reducible show (_ : Nat) < _); ((try dsimp only); omega)) | exact rfl | skip
end Vg
