/- l02Make makes a good term simple. Condition: the term is good. -/
import Derived.Test.YtcdepophgnlphaaDoorTermMB
import Derived.Test.YtcdepophgnlphaaDoorTermRB
import Derived.Test.YtcdepophgnlphaaDoorRg
namespace Vg
open Go Go.Proofs
theorem len3 {t : V.Term} (ht : okT t = true) : t.kids.length ≤ 3 := by
  have := (q9 ht).len
  unfold j6 at this
  repeat' split at this
  all_goals omega
theorem eQ {ks : List V.Term} {k : Nat} (h : ks.length ≤ k) : ks.take k = ks := List.take_of_length_le h
theorem wr_s {k : Nat} (h : k ≤ 3) : Dat.i ((k + 1 : Nat) : Int) = Dat.int IntKind.i64 (IntKind.i64.wrap ((k : Int) + 1)) := by
  rw [g4 omG omG]; rfl
/-! ### making a term -/
theorem yZ {ks : List V.Term} {k : Nat} (h : (k : Int) < ks.length) (hk : okTs ks = true) : okT ⟨(ks.getD (k : Int).toNat K.terms.dflt).op, (ks.getD (k : Int).toNat K.terms.dflt).w, (ks.getD (k : Int).toNat K.terms.dflt).n, (ks.getD (k : Int).toNat K.terms.dflt).name, (ks.getD (k : Int).toNat K.terms.dflt).kids⟩ = true := by
  rw [V.Term.eta]
  exact mA (i := k) hk omG
theorem sz_at : ∀ {ks : List V.Term} {i : Nat}, i < ks.length → sizeT (kAt ks i) ≤ d3 ks
  | t :: ts, 0, _ => by rw [d3]; show sizeT t ≤ _; omega
  | t :: ts, i + 1, h => by
    have := sz_at (ks := ts) (i := i) (by simpa using h)
    rw [d3]
    show sizeT (kAt ts i) ≤ _
    omega
theorem sz_kid {t : V.Term} {k : Nat} (h : (k : Int) < t.kids.length) : sizeT ⟨(t.kids.getD (k : Int).toNat K.terms.dflt).op, (t.kids.getD (k : Int).toNat K.terms.dflt).w, (t.kids.getD (k : Int).toNat K.terms.dflt).n, (t.kids.getD (k : Int).toNat K.terms.dflt).name, (t.kids.getD (k : Int).toNat K.terms.dflt).kids⟩ < sizeT t := by
  rw [V.Term.eta, gQ t]
  have := sz_at (ks := t.kids) (i := k) omG
  show sizeT (kAt t.kids k) < _
  omega
theorem take_s {ks : List V.Term} {k : Nat} (h : (k : Int) < ks.length) : ks.take (k + 1) = ks.take k ++ [⟨(ks.getD (k : Int).toNat K.terms.dflt).op, (ks.getD (k : Int).toNat K.terms.dflt).w, (ks.getD (k : Int).toNat K.terms.dflt).n, (ks.getD (k : Int).toNat K.terms.dflt).name, (ks.getD (k : Int).toNat K.terms.dflt).kids⟩] := by
  have hk : k < ks.length := by omega
  have e : ks.getD (k : Int).toNat K.terms.dflt = ks[k] := by
    rw [Int.toNat_natCast, List.getD_eq_getElem?_getD, List.getElem?_eq_getElem hk]; rfl
  rw [V.Term.eta, e, List.take_add_one, List.getElem?_eq_getElem hk]
  rfl
theorem bQ {ks : List V.Term} {k : Nat} (hk : k ≤ ks.length) : (ks.take k).length = k := by simp; omega
structure IHCp (t : V.Term) : Prop where
  call : ∀ (op w n : Int) (nm : ByteArray) (ks : List V.Term), okT ⟨op, w, n, nm, ks⟩ = true → sizeT ⟨op, w, n, nm, ks⟩ < sizeT t →
    CallsV Tryd.prog 13 [.agg [.dat (.i op), .dat (.i w), .dat (.i n), .dat (.str nm), .dat (.seq .terms ks)]] (q8 ⟨op, w, n, nm, ks⟩)
theorem ih_cp {t : V.Term} (ih : IHCp t) {op w n : Int} {nm : ByteArray} {ks : List V.Term} (hk : okT ⟨op, w, n, nm, ks⟩ = true) (hm : sizeT ⟨op, w, n, nm, ks⟩ < sizeT t) :
    CallsV Tryd.prog 13 [.agg [.dat (.i op), .dat (.i w), .dat (.i n), .dat (.str nm), .dat (.seq .terms ks)]] (q8 ⟨op, w, n, nm, ks⟩) := ih.call op w n nm ks hk hm
set_option maxRecDepth 100000 in
theorem s_Copy0 (t : V.Term) (ih : IHCp t) (ht : okT t = true) : CallsV Tryd.prog 13 [.agg [.dat (.i t.op), .dat (.i t.w), .dat (.i t.n), .dat (.str t.name), .dat (.seq .terms t.kids)]] (q8 t) := by
  refine oV Tryd.func13 ⟨?_⟩
  repeat' (first | ((with_reducible refine fun (K1 : KT) hK => ?_); refine i7 ⟨?_⟩) | ((with_reducible show K1 _ _); subst hK; conv => whnf) | (with_reducible refine frG ?_) | (with_reducible exact rfl) | refine f4 ⟨?_⟩ | ((with_reducible refine SplS.mk (fun h => ?_) (fun h => ?_)) <;> first | exact o6 | (subst h; conv => whnf) | (conv => whnf)) | refine g5 ⟨?_⟩ ⟨?_⟩ | (refine Exists.intro ({k : Nat // k ≤ t.kids.length}) (Exists.intro (fun ⟨k, hk⟩ => x5 Tryd.f13.ntmps [(1, .ptr 1 0), (2, .ptr 2 0), (3, .row 3), (8, .dat (.seq .terms t.kids)), (9, .dat (.i t.kids.length)), (10, .dat (.i k))] [(1, .box [.dat (.i t.op), .dat (.i t.w), .dat (.i t.n), .dat (.str t.name), .dat (.seq .terms t.kids)]), (2, .box [.dat (.i 0), .dat (.i 0), .dat (.i 0), .dat (.str ByteArray.empty), .nils]), (3, .row 24 .terms (t.kids.take k) false)]) (Exists.intro (fun ⟨k, hk⟩ => t.kids.length - k) (Exists.intro ⟨0, Nat.zero_le _⟩ (And.intro (SubP.sub (σ := [(1, some 1), (2, some 2), (3, some 6)]) ⟨⟨rfl, rfl, rfl⟩, ⟨⟨rfl, rfl⟩, ⟨rfl, rfl⟩, rfl, j0 ?_, j0 ?_, j0 ?_, trivial⟩, ⟨⟨g0 ?_, g0 ?_, g0 ?_, g0 ?_, g0 ?_, trivial⟩, ⟨g0 ?_, g0 ?_, g0 ?_, g0 ?_, trivial, trivial⟩, ⟨⟨rfl, rfl⟩, ?_⟩, trivial⟩⟩) (fun ⟨k, hk⟩ => ?_))))); rotate_right; conv => whnf) | (refine Exists.intro (⟨k + 1, ?_⟩ : {k : Nat // k ≤ t.kids.length}) (And.intro ?_ (SubP.sub (σ := [(1, some 1), (2, some 2), (3, some 18)]) ⟨⟨rfl, rfl, rfl⟩, ⟨⟨rfl, rfl⟩, ⟨rfl, rfl⟩, rfl, j0 ?_, j0 ?_, j0 ?_, trivial⟩, ⟨⟨g0 ?_, g0 ?_, g0 ?_, g0 ?_, g0 ?_, trivial⟩, ⟨g0 ?_, g0 ?_, g0 ?_, g0 ?_, trivial, trivial⟩, ⟨⟨rfl, rfl⟩, ?_⟩, trivial⟩⟩))) | ((with_reducible first | refine p3 (g := 13) ?_ | show Exists _); refine ⟨_, ih_cp (ih := by assumption) (hk := ?_) (hm := ?_) .., rfl, ?_⟩; rotate_right; conv => whnf) | (intro h; conv => whnf))
  all_goals repeat clear hK K1
  all_goals first | exact True.intro | ((with_reducible show (_ : Int) ≤ _); omega) | ((with_reducible show (_ : Int) < _); with_reducible assumption) | ((with_reducible show okT _ = true); exact yZ asmR (lB ht)) | ((with_reducible show sizeT _ < _); exact sz_kid asmR) | ((with_reducible show (_ : Nat) < _); (dsimp only; omega)) | (have l3 := len3 ht; exact wr_s omG) | exact congrArg (Sigma.mk K.terms) ((take_s asmR).trans rfl) | ((with_reducible show _ * _ ≤ _); have l3 := len3 ht; have l4 := bQ (ks := t.kids) hk; rw [l4]; exact Nat.le_trans (Nat.mul_le_mul_right _ (show k + 1 ≤ 4 by omega)) (by decide)) | ((with_reducible show _ + _ ≤ _); have l3 := len3 ht; have l4 := bQ (ks := t.kids) hk; rw [l4]; show k + 1 ≤ 2 ^ 63 - 1; omega) | ((with_reducible show _ ≤ _); omega) | (with_reducible assumption) | exact rfl | exact ⟨rfl, rfl, rfl, rfl, congrArg (Dat.seq K.terms) (eQ (ks := t.kids) (k := k) omG).symm, True.intro⟩ | exact ⟨rfl, rfl, rfl, rfl, rfl, True.intro⟩ | exact ⟨⟨rfl, rfl, rfl, rfl, congrArg (Dat.seq K.terms) (eQ (ks := t.kids) (k := k) omG).symm, True.intro⟩⟩ | skip
theorem xY (op w n : Int) (nm : ByteArray) (ks : List V.Term) (hk : okT ⟨op, w, n, nm, ks⟩ = true) :
    CallsV Tryd.prog 13 [.agg [.dat (.i op), .dat (.i w), .dat (.i n), .dat (.str nm), .dat (.seq .terms ks)]] (q8 ⟨op, w, n, nm, ks⟩) := by
  have key : ∀ (k : Nat) (t : V.Term), sizeT t < k → okT t = true →
      CallsV Tryd.prog 13 [.agg [.dat (.i t.op), .dat (.i t.w), .dat (.i t.n), .dat (.str t.name), .dat (.seq .terms t.kids)]] (q8 t) := by
    intro k
    induction k with
    | zero => intro t h; exact absurd h (Nat.not_lt_zero _)
    | succ k ih =>
      intro t h ht
      exact s_Copy0 t ⟨fun op w n nm ks hk hs => ih ⟨op, w, n, nm, ks⟩ omG hk⟩ ht
  exact key _ ⟨op, w, n, nm, ks⟩ (Nat.lt_succ_self _) hk
end Vg
