/- Terms in the laws: sizes, copies, comparisons. Condition: terms are no larger than the law lets through. -/
import Derived.Test.YtgmpfaennbojaaaGreatPoolL
import Derived.Test.YtgmpfaennbojaaaGreatTermI
namespace Vg
open Go Go.Proofs
/-! ### sizes -/
def smT : List V.Term → Nat
  | [] => 0
  | t :: ts => szT t + smT ts
theorem szTs_sm : ∀ l : List V.Term, szTs l = l.length + smT l
  | [] => rfl
  | t :: ts => by
    have := szTs_sm ts
    rw [szTs, smT, List.length_cons]; omega
theorem szT_eq (t : V.Term) : szT t = t.name.size + szTs t.kids := by cases t; rw [szT]
theorem smT_app : ∀ a b : List V.Term, smT (a ++ b) = smT a + smT b
  | [], b => by rw [smT, List.nil_append, Nat.zero_add]
  | t :: a, b => by rw [List.cons_append, smT, smT, smT_app a b, Nat.add_assoc]
theorem smT_step {l : List V.Term} {k : Nat} (h : (k : Int) < l.length) : smT (l.take (k + 1)) = smT (l.take k) + szT (l.getD k K.terms.dflt) := by
  rw [tk_succ h, smT_app, smT, smT, Nat.add_zero]
theorem smT_le (l : List V.Term) (k : Nat) : smT (l.take k) ≤ smT l := by
  have h := smT_app (l.take k) (l.drop k)
  rw [List.take_append_drop] at h
  omega
theorem nmOk_eq (t : V.Term) : nmOk t = (t.name.size ≤ maxLen ∧ nmOks t.kids) := by cases t; rw [nmOk]
theorem nmOks_at : ∀ {l : List V.Term} {k : Nat}, nmOks l → k < l.length → nmOk (l.getD k K.terms.dflt)
  | t :: ts, 0, h, _ => by rw [nmOks] at h; exact h.1
  | t :: ts, k + 1, h, hk => by
    rw [nmOks] at h
    exact nmOks_at (l := ts) (k := k) h.2 (by simpa using hk)
theorem sz_el {l : List V.Term} {k m : Nat} (h : (k : Int) < l.length) (hm : sizeTs l < m) : sizeT ⟨(l.getD (k : Int).toNat K.terms.dflt).op, (l.getD (k : Int).toNat K.terms.dflt).w, (l.getD (k : Int).toNat K.terms.dflt).n, (l.getD (k : Int).toNat K.terms.dflt).name, (l.getD (k : Int).toNat K.terms.dflt).kids⟩ < m := by
  rw [V.Term.eta]
  have : sizeT (kAt l k) ≤ sizeTs l := sizeTs_at (by omega)
  exact Nat.lt_of_le_of_lt this hm
theorem nm_el {l : List V.Term} {k : Nat} (h : (k : Int) < l.length) (hd : nmOks l) : nmOk ⟨(l.getD (k : Int).toNat K.terms.dflt).op, (l.getD (k : Int).toNat K.terms.dflt).w, (l.getD (k : Int).toNat K.terms.dflt).n, (l.getD (k : Int).toNat K.terms.dflt).name, (l.getD (k : Int).toNat K.terms.dflt).kids⟩ := by
  rw [V.Term.eta]
  exact nmOks_at hd (by omega)
theorem szL_two {L : Int} {a b : Nat} (_ : ¬ L - a < 0) : szL (L - a) b = szL L (a + b) := by
  unfold szL; push_cast; split <;> split <;> omega
theorem szL_one {L : Int} {a b : Nat} (h : L - a < 0) : szL L (a + b) = -1 := by
  unfold szL; rw [if_pos (by push_cast; omega)]
structure IHzS (m : Nat) : Prop where
  call : ∀ (l : List V.Term) (left : Int), sizeTs l < m → nmOks l → 0 ≤ left → left ≤ 1048576 → CallsV Tryz.prog 5 [.dat (.seq .terms l), .dat (.i left)] (.dat (.i (szL left (szTs l))))
theorem ih_zS {m : Nat} (ih : IHzS m) {l : List V.Term} {left : Int} (hs : sizeTs l < m) (hd : nmOks l) (h0 : 0 ≤ left) (h1 : left ≤ 1048576) : CallsV Tryz.prog 5 [.dat (.seq .terms l), .dat (.i left)] (.dat (.i (szL left (szTs l)))) := ih.call l left hs hd h0 h1
theorem zw {left : Int} {n : Nat} (hn : n ≤ maxLen) (h0 : 0 ≤ left) (h1 : left ≤ 1048576) : IntKind.i64.wrap (left - n) = left - n := by
  have hm : maxLen = 9223372036854775807 := rfl
  exact wrap_id (by omega) (by omega)
set_option maxRecDepth 100000 in
theorem l_zT0 (m : Nat) (op w n : Int) (nm : ByteArray) (ks : List V.Term) (left : Int) (ih : IHzS m) (hm : sizeTs ks < m) (hd : nmOk ⟨op, w, n, nm, ks⟩) (h0 : 0 ≤ left) (h1 : left ≤ 1048576) : CallsV Tryz.prog 19 [.agg [.dat (.i op), .dat (.i w), .dat (.i n), .dat (.str nm), .dat (.seq .terms ks)], .dat (.i left)] (.dat (.i (szL left (szT ⟨op, w, n, nm, ks⟩)))) := by
  refine CallsV.of_awp tauOk mixOk Tryz.func19 rfl rfl rfl ?_
  conv => whnf
  repeat' (first | ((with_reducible refine fun (K1 : AX → AState → Prop) hK => ?_); refine stK ⟨?_⟩) | ((with_reducible show K1 _ _); subst hK; conv => whnf) | (with_reducible exact rfl) | refine st0 ⟨?_⟩ | ((with_reducible refine SplS.mk (fun h => ?_) (fun h => ?_)) <;> first | exact ctA | (subst h; conv => whnf) | (conv => whnf)) | ((with_reducible refine SplB.mk (fun h => ?_) (fun h => ?_)) <;> first | exact ctR | (conv => whnf)) | ((with_reducible refine pcI (g := 5) ?_); refine ⟨_, ih_zS (ih := by assumption) (hs := ?_) (hd := ?_) (h0 := ?_) (h1 := ?_) .., rfl, ?_⟩; rotate_right; conv => whnf) | ((with_reducible show Exists _); refine Exists.intro _ (And.intro (ih_zS (ih := by assumption) (hs := ?_) (hd := ?_) (h0 := ?_) (h1 := ?_) ..) (And.intro rfl ?_)); rotate_right; conv => whnf) | (intro h; conv => whnf))
  all_goals (repeat (clear hK; clear K1))
  all_goals (rw [nmOk_eq] at hd; have e := zw (left := left) hd.1 h0 h1; have e2 := szT_eq ⟨op, w, n, nm, ks⟩; dsimp only at hd e e2; simp only [e] at *)
  all_goals first | (with_reducible assumption) | exact hd.2 | omega | (refine congrArg Dat.i ?_; rw [e2]; first | exact szL_one (by with_reducible assumption) | (have q := szL_two (b := szTs ks) (show ¬ left - (nm.size : Int) < 0 by with_reducible assumption); first | exact q.symm | (rw [← q]; exact szL_is (by with_reducible assumption)))) | skip
structure IHzT (m : Nat) : Prop where
  call : ∀ (op w n : Int) (nm : ByteArray) (ks : List V.Term) (left : Int), sizeT ⟨op, w, n, nm, ks⟩ < m → nmOk ⟨op, w, n, nm, ks⟩ → 0 ≤ left → left ≤ 1048576 → CallsV Tryz.prog 19 [.agg [.dat (.i op), .dat (.i w), .dat (.i n), .dat (.str nm), .dat (.seq .terms ks)], .dat (.i left)] (.dat (.i (szL left (szT ⟨op, w, n, nm, ks⟩))))
theorem ih_zT {m : Nat} (ih : IHzT m) {op w n : Int} {nm : ByteArray} {ks : List V.Term} {left : Int} (hs : sizeT ⟨op, w, n, nm, ks⟩ < m) (hd : nmOk ⟨op, w, n, nm, ks⟩) (h0 : 0 ≤ left) (h1 : left ≤ 1048576) : CallsV Tryz.prog 19 [.agg [.dat (.i op), .dat (.i w), .dat (.i n), .dat (.str nm), .dat (.seq .terms ks)], .dat (.i left)] (.dat (.i (szL left (szT ⟨op, w, n, nm, ks⟩)))) := ih.call op w n nm ks left hs hd h0 h1
theorem zs_no {l : List V.Term} {left : Int} {k : Nat} (hk : (k : Int) < l.length) (h : szL (left - (l.length + smT (l.take k) : Nat)) (szT (l.getD k K.terms.dflt)) < 0) : szL left (szTs l) = -1 := by
  have e := smT_step hk
  have q := smT_le l (k + 1)
  have e2 := szTs_sm l
  unfold szL at h ⊢
  split at h <;> split <;> omega
theorem zs_next {l : List V.Term} {left : Int} {k : Nat} (hk : (k : Int) < l.length) (h : ¬ szL (left - (l.length + smT (l.take k) : Nat)) (szT (l.getD k K.terms.dflt)) < 0) :
    0 ≤ left - (l.length + smT (l.take (k + 1)) : Nat) ∧ left - (l.length + smT (l.take (k + 1)) : Nat) = szL (left - (l.length + smT (l.take k) : Nat)) (szT (l.getD k K.terms.dflt)) := by
  have e := smT_step hk
  unfold szL at h ⊢
  split at h
  · omega
  · rename_i h'
    rw [if_neg h']; omega
theorem zs_end {l : List V.Term} {left : Int} {k : Nat} (h : ¬ (k : Int) < l.length) (hk : 0 ≤ left - (l.length + smT (l.take k) : Nat)) : szL left (szTs l) = left - (l.length + smT (l.take k) : Nat) := by
  rw [List.take_of_length_le (by omega)] at hk ⊢
  have e2 := szTs_sm l
  unfold szL
  rw [if_neg (by omega)]; omega
set_option maxRecDepth 100000 in
theorem l_zS0 (m : Nat) (l : List V.Term) (left : Int) (ih : IHzT m) (hm : sizeTs l < m) (hd : nmOks l) (h0 : 0 ≤ left) (h1 : left ≤ 1048576) : CallsV Tryz.prog 5 [.dat (.seq .terms l), .dat (.i left)] (.dat (.i (szL left (szTs l)))) := by
  refine CallsV.of_awp tauOk mixOk Tryz.func5 rfl rfl rfl ?_
  conv => whnf
  repeat' (first | ((with_reducible refine fun (K1 : AX → AState → Prop) hK => ?_); refine stK ⟨?_⟩) | ((with_reducible show K1 _ _); subst hK; conv => whnf) | (with_reducible exact rfl) | refine st0 ⟨?_⟩ | ((with_reducible refine SplS.mk (fun h => ?_) (fun h => ?_)) <;> first | exact ctA | (subst h; conv => whnf) | (conv => whnf)) | ((with_reducible refine SplB.mk (fun h => ?_) (fun h => ?_)) <;> first | exact ctR | (conv => whnf)) | (with_reducible first | refine bnd2 ?_ ?_ | refine bnd2' ?_ ?_ | refine bndN ?_ ?_) | ((with_reducible refine and_of ?_ ?_); conv => whnf) | (refine Exists.intro ({k : Nat // 0 ≤ left - (l.length + smT (l.take k) : Nat)}) (Exists.intro (fun ⟨k, hk⟩ => mkS Tryz.f5.ntmps [(0, .dat (.seq .terms l)), (1, .dat (.i (left - (l.length + smT (l.take k) : Nat)))), (5, .dat (.i k))] []) (Exists.intro (fun ⟨k, hk⟩ => l.length - k) (Exists.intro ⟨0, ?_⟩ (And.intro (SubP.sub (σ := []) ⟨⟨rfl, rfl, rfl⟩, ⟨(wk_dat ?_), (wk_dat ?_), (wk_dat ?_), trivial⟩, trivial⟩) (fun ⟨k, hk⟩ => ?_))))); rotate_right; conv => whnf) | (refine Exists.intro (⟨k + 1, ?_⟩ : {k : Nat // 0 ≤ left - (l.length + smT (l.take k) : Nat)}) (And.intro ?_ (SubP.sub (σ := []) ⟨⟨rfl, rfl, rfl⟩, ⟨(wk_dat ?_), (wk_dat ?_), (wk_dat ?_), trivial⟩, trivial⟩))) | ((with_reducible refine pcI (g := 19) ?_); refine ⟨_, ih_zT (ih := by assumption) (hs := ?_) (hd := ?_) (h0 := ?_) (h1 := ?_) .., rfl, ?_⟩; rotate_right; conv => whnf) | ((with_reducible show Exists _); refine Exists.intro _ (And.intro (ih_zT (ih := by assumption) (hs := ?_) (hd := ?_) (h0 := ?_) (h1 := ?_) ..) (And.intro rfl ?_)); rotate_right; conv => whnf) | (intro h; conv => whnf))
  all_goals (repeat (clear hK; clear K1))
  all_goals first | (with_reducible assumption) | ((with_reducible show (_ : Int) ≤ _); first | omega | (simp only [List.take_zero, smT]; have e := zw (by with_reducible assumption) h0 h1; simp only [e] at *; omega)) | ((with_reducible show (_ : Nat) < _); (dsimp only; omega)) | exact sz_el (by with_reducible assumption) hm | exact nm_el (by with_reducible assumption) hd | exact congrArg (Dat.int .i64) (wrap_succ (by with_reducible assumption) (by with_reducible assumption)).symm | (refine congrArg Dat.i ?_; have e := zw (by with_reducible assumption) h0 h1; simp only [e] at *; have e2 := szTs_sm l; first | (unfold szL; rw [if_pos (by omega)]; done) | (simp only [List.take_zero, smT]; omega)) | (simp only [V.Term.eta, Int.toNat_natCast] at *; first | exact congrArg Dat.i (zs_no (by with_reducible assumption) (by with_reducible assumption)) | exact (zs_next (by with_reducible assumption) (by with_reducible assumption)).1 | exact congrArg Dat.i (zs_next (by with_reducible assumption) (by with_reducible assumption)).2) | exact congrArg Dat.i (zs_end (by with_reducible assumption) hk) | rfl | skip
theorem zT_of {m : Nat} (ih : IHzS m) : IHzT (m + 1) := ⟨fun op w n nm ks left hs hd h0 h1 => l_zT0 m op w n nm ks left ih (by rw [sizeT] at hs; omega) hd h0 h1⟩
theorem zS_all : ∀ m, IHzS m
  | 0 => ⟨fun _ _ h => absurd h (Nat.not_lt_zero _)⟩
  | m + 1 => ⟨fun l left hs hd h0 h1 => l_zS0 (m + 1) l left (zT_of (zS_all m)) hs hd h0 h1⟩
theorem l_szTermS (l : List V.Term) (left : Int) (hd : nmOks l) (h0 : 0 ≤ left) (h1 : left ≤ 1048576) : CallsV Tryz.prog 5 [.dat (.seq .terms l), .dat (.i left)] (.dat (.i (szL left (szTs l)))) := (zS_all (sizeTs l + 1)).call l left (Nat.lt_succ_self _) hd h0 h1
end Vg

namespace Vg
open Go Go.Proofs
structure IHtS (m : Nat) : Prop where
  call : ∀ (l : List V.Term), sizeTs l < m → szTs l ≤ 1048576 → CallsF Tryz.prog 9 [.dat (.seq .terms l)] true (fun res B => res = .row 0 ∧ B = [.tree 32 .terms l])
theorem ih_tS {m : Nat} (ih : IHtS m) {l : List V.Term} (hs : sizeTs l < m) (hz : szTs l ≤ 1048576) : CallsF Tryz.prog 9 [.dat (.seq .terms l)] true (fun res B => res = .row 0 ∧ B = [.tree 32 .terms l]) := ih.call l hs hz
set_option maxRecDepth 100000 in
theorem l_tT0 (m : Nat) (op w n : Int) (nm : ByteArray) (ks : List V.Term) (ih : IHtS m) (hm : sizeTs ks < m) (hz : szTs ks ≤ 1048576) : CallsF Tryz.prog 26 [.agg [.dat (.i op), .dat (.i w), .dat (.i n), .dat (.str nm), .dat (.seq .terms ks)]] true (fun res B => res = .agg [.dat (.i op), .dat (.i w), .dat (.i n), .dat (.str nm), .row 0] ∧ B = [.tree 32 .terms ks]) := by
  refine CallsF.of_awp tauOk mixOk Tryz.func26 rfl rfl rfl ?_
  conv => whnf
  repeat' (first | ((with_reducible refine fun (K1 : AX → AState → Prop) hK => ?_); refine stK ⟨?_⟩) | ((with_reducible show K1 _ _); subst hK; conv => whnf) | (with_reducible exact rfl) | refine st0 ⟨?_⟩ | ((with_reducible refine SplS.mk (fun h => ?_) (fun h => ?_)) <;> first | exact ctA | (subst h; conv => whnf) | (conv => whnf)) | ((with_reducible refine SplB.mk (fun h => ?_) (fun h => ?_)) <;> first | exact ctR | (conv => whnf)) | ((with_reducible refine and_of ?_ ?_); conv => whnf) | ((with_reducible refine fcI (g := 9) ?_); refine ⟨_, _, ih_tS (ih := by assumption) (hs := ?_) (hz := ?_) .., rfl, fun res B hRB => ?_⟩; rotate_right; obtain ⟨rfl, rfl⟩ := hRB; conv => whnf) | (intro h; conv => whnf))
  all_goals (repeat (clear hK; clear K1))
  all_goals first | (with_reducible assumption) | exact ⟨rfl, rfl⟩ | rfl | skip
structure IHtT (m : Nat) : Prop where
  call : ∀ (op w n : Int) (nm : ByteArray) (ks : List V.Term), sizeT ⟨op, w, n, nm, ks⟩ < m → szTs ks ≤ 1048576 → CallsF Tryz.prog 26 [.agg [.dat (.i op), .dat (.i w), .dat (.i n), .dat (.str nm), .dat (.seq .terms ks)]] true (fun res B => res = .agg [.dat (.i op), .dat (.i w), .dat (.i n), .dat (.str nm), .row 0] ∧ B = [.tree 32 .terms ks])
theorem ih_tT {m : Nat} (ih : IHtT m) {op w n : Int} {nm : ByteArray} {ks : List V.Term} (hs : sizeT ⟨op, w, n, nm, ks⟩ < m) (hz : szTs ks ≤ 1048576) : CallsF Tryz.prog 26 [.agg [.dat (.i op), .dat (.i w), .dat (.i n), .dat (.str nm), .dat (.seq .terms ks)]] true (fun res B => res = .agg [.dat (.i op), .dat (.i w), .dat (.i n), .dat (.str nm), .row 0] ∧ B = [.tree 32 .terms ks]) := ih.call op w n nm ks hs hz
theorem szTs_at : ∀ {l : List V.Term} {k : Nat}, k < l.length → szT (l.getD k K.terms.dflt) < szTs l
  | t :: ts, 0, _ => by rw [szTs]; show szT t < _; omega
  | t :: ts, k + 1, h => by
    have := szTs_at (l := ts) (k := k) (by simpa using h)
    rw [szTs]
    show szT (ts.getD k K.terms.dflt) < _
    omega
theorem szk_el {l : List V.Term} {k m : Nat} (h : (k : Int) < l.length) (hm : szTs l ≤ m) : szTs (l.getD (k : Int).toNat K.terms.dflt).kids ≤ m := by
  have q := szTs_at (l := l) (k := k) (by omega)
  rw [szT_eq] at q
  rw [Int.toNat_natCast]
  omega
theorem set_midT {a : List V.Term} {k : Nat} (h : (k : Int) < a.length) : (a.take k ++ List.replicate (a.length - k) K.terms.dflt).set (k : Int).toNat ⟨(a.getD (k : Int).toNat K.terms.dflt).op, (a.getD (k : Int).toNat K.terms.dflt).w, (a.getD (k : Int).toNat K.terms.dflt).n, (a.getD (k : Int).toNat K.terms.dflt).name, (a.getD (k : Int).toNat K.terms.dflt).kids⟩ = a.take (k + 1) ++ List.replicate (a.length - (k + 1)) K.terms.dflt := by
  rw [V.Term.eta, Int.toNat_natCast]
  exact set_mid K.terms.dflt K.terms.dflt h
set_option maxRecDepth 100000 in
theorem l_tS0 (m : Nat) (l : List V.Term) (ih : IHtT m) (hm : sizeTs l < m) (hz : szTs l ≤ 1048576) : CallsF Tryz.prog 9 [.dat (.seq .terms l)] true (fun res B => res = .row 0 ∧ B = [.tree 32 .terms l]) := by
  refine CallsF.of_awp tauOk mixOk Tryz.func9 rfl rfl rfl ?_
  conv => whnf
  repeat' (first | ((with_reducible refine Alt.r ?_); conv => whnf) | ((with_reducible refine fun (K1 : AX → AState → Prop) hK => ?_); refine stK ⟨?_⟩) | ((with_reducible show K1 _ _); subst hK; conv => whnf) | (with_reducible exact rfl) | refine st0 ⟨?_⟩ | ((with_reducible refine SplS.mk (fun h => ?_) (fun h => ?_)) <;> first | exact ctA | (subst h; conv => whnf) | (conv => whnf)) | ((with_reducible refine SplB.mk (fun h => ?_) (fun h => ?_)) <;> first | exact ctR | (conv => whnf)) | (with_reducible first | refine bnd2 ?_ ?_ | refine bnd2' ?_ ?_ | refine bndN ?_ ?_) | ((with_reducible refine and_of ?_ ?_); conv => whnf) | (refine Exists.intro ({k : Nat // k ≤ l.length}) (Exists.intro (fun ⟨k, hk⟩ => mkS Tryz.f9.ntmps [(0, .dat (.seq .terms l)), (3, .row 7), (4, .dat (.i k))] [(7, .tree 32 .terms (l.take k ++ List.replicate (l.length - k) K.terms.dflt))]) (Exists.intro (fun ⟨k, hk⟩ => l.length - k) (Exists.intro ⟨0, Nat.zero_le _⟩ (And.intro (SubP.sub (σ := [(7, some 7)]) ⟨⟨rfl, rfl, rfl⟩, ⟨(wk_dat ?_), rfl, (wk_dat ?_), trivial⟩, ⟨⟨rfl, ?_⟩, trivial⟩⟩) (fun ⟨k, hk⟩ => ?_))))); rotate_right; conv => whnf) | (refine Exists.intro (⟨k + 1, ?_⟩ : {k : Nat // k ≤ l.length}) (And.intro ?_ (SubP.sub (σ := [(7, some 7)]) ⟨⟨rfl, rfl, rfl⟩, ⟨(wk_dat ?_), rfl, (wk_dat ?_), trivial⟩, ⟨⟨rfl, ?_⟩, trivial⟩⟩))) | ((with_reducible refine fcI (g := 26) ?_); refine ⟨_, _, ih_tT (ih := by assumption) (hs := ?_) (hz := ?_) .., rfl, fun res B hRB => ?_⟩; rotate_right; obtain ⟨rfl, rfl⟩ := hRB; conv => whnf) | (intro h; conv => whnf))
  all_goals (repeat (clear hK; clear K1))
  all_goals (have hl := len_szs l)
  all_goals first | (with_reducible assumption) | ((with_reducible show (_ : Nat) < _); (dsimp only; omega)) | exact sz_el (by with_reducible assumption) hm | exact szk_el (by with_reducible assumption) hz | exact congrArg (Dat.int .i64) (wrap_succ (by with_reducible assumption) (by with_reducible assumption)).symm | exact sig_fin ((set_midT (by with_reducible assumption)).symm.trans (Eq.symm (by with_reducible assumption))) | exact sig_fin ((set_midT (by with_reducible assumption)).symm) | exact tree_fin (take_end (by with_reducible assumption)) | (have h1 := szk_el (by with_reducible assumption) hz; exact Nat.le_trans (len_szs _) (Nat.le_trans h1 (by decide))) | (have h1 := szk_el (by with_reducible assumption) hz; exact Nat.le_trans (len_szs _) (by omega)) | ((with_reducible show (_ : Int) ≤ _); first | omega | (show (_ : Int) * ((64 : Nat) : Int) ≤ _; omega)) | (simp; omega) | rfl | skip
theorem tT_of {m : Nat} (ih : IHtS m) : IHtT (m + 1) := ⟨fun op w n nm ks hs hz => l_tT0 m op w n nm ks ih (by rw [sizeT] at hs; omega) hz⟩
theorem tS_all : ∀ m, IHtS m
  | 0 => ⟨fun _ h => absurd h (Nat.not_lt_zero _)⟩
  | m + 1 => ⟨fun l hs hz => l_tS0 (m + 1) l (tT_of (tS_all m)) hs hz⟩
theorem lt_toTermS (l : List V.Term) (hz : szTs l ≤ 1048576) : CallsF Tryz.prog 9 [.dat (.seq .terms l)] true (fun res B => res = .row 0 ∧ B = [.tree 32 .terms l]) := (tS_all (sizeTs l + 1)).call l (Nat.lt_succ_self _) hz
/-! ### comparisons -/
structure IHeS (m : Nat) : Prop where
  call : ∀ (a b : List V.Term), sizeTs a < m → CallsV Tryz.prog 13 [.dat (.seq .terms a), .dat (.seq .terms b)] (.dat (.bool (decide (a = b))))
theorem ih_eS {m : Nat} (ih : IHeS m) {a b : List V.Term} (hs : sizeTs a < m) : CallsV Tryz.prog 13 [.dat (.seq .terms a), .dat (.seq .terms b)] (.dat (.bool (decide (a = b)))) := ih.call a b hs
set_option maxRecDepth 100000 in
theorem l_eT0 (m : Nat) (op w n : Int) (nm : ByteArray) (ks : List V.Term) (op' w' n' : Int) (nm' : ByteArray) (ks' : List V.Term) (ih : IHeS m) (hm : sizeTs ks < m) : CallsV Tryz.prog 11 [.agg [.dat (.i op), .dat (.i w), .dat (.i n), .dat (.str nm), .dat (.seq .terms ks)], .agg [.dat (.i op'), .dat (.i w'), .dat (.i n'), .dat (.str nm'), .dat (.seq .terms ks')]] (.dat (.bool (decide ((⟨op, w, n, nm, ks⟩ : V.Term) = ⟨op', w', n', nm', ks'⟩)))) := by
  refine CallsV.of_awp tauOk mixOk Tryz.func11 rfl rfl rfl ?_
  conv => whnf
  repeat' (first | ((with_reducible refine fun (K1 : AX → AState → Prop) hK => ?_); refine stK ⟨?_⟩) | ((with_reducible show K1 _ _); subst hK; conv => whnf) | (with_reducible exact rfl) | refine st0 ⟨?_⟩ | ((with_reducible refine SplS.mk (fun h => ?_) (fun h => ?_)) <;> first | exact ctA | (subst h; conv => whnf) | (conv => whnf)) | ((with_reducible refine SplB.mk (fun h => ?_) (fun h => ?_)) <;> first | exact ctR | (conv => whnf)) | ((with_reducible refine pcI (g := 13) ?_); refine ⟨_, ih_eS (ih := by assumption) (hs := ?_) .., rfl, ?_⟩; rotate_right; conv => whnf) | ((with_reducible show Exists _); refine Exists.intro _ (And.intro (ih_eS (ih := by assumption) (hs := ?_) ..) (And.intro rfl ?_)); rotate_right; conv => whnf) | (intro h; conv => whnf))
  all_goals (repeat (clear hK; clear K1))
  all_goals first | (with_reducible assumption) | (refine congrArg Dat.bool ?_; first | exact decide_eq_false (fun e => absurd (congrArg V.Term.op e) (by with_reducible assumption)) | exact decide_eq_false (fun e => absurd (congrArg V.Term.w e) (by with_reducible assumption)) | exact decide_eq_false (fun e => absurd (congrArg V.Term.n e) (by with_reducible assumption)) | exact decide_eq_false (fun e => str_ne (by with_reducible assumption) (congrArg V.Term.name e)) | exact decide_eq_false (fun e => of_decide_eq_false (by with_reducible assumption) (congrArg V.Term.kids e)) | exact decide_eq_false (fun e => absurd (congrArg V.Term.kids e) (by with_reducible assumption)) | exact decide_eq_true (by rw [str_eq (show (nm.toList == nm'.toList) = true by with_reducible assumption), show ks = ks' from of_decide_eq_true h])) | skip
structure IHeT (m : Nat) : Prop where
  call : ∀ (op w n : Int) (nm : ByteArray) (ks : List V.Term) (op' w' n' : Int) (nm' : ByteArray) (ks' : List V.Term), sizeT ⟨op, w, n, nm, ks⟩ < m → CallsV Tryz.prog 11 [.agg [.dat (.i op), .dat (.i w), .dat (.i n), .dat (.str nm), .dat (.seq .terms ks)], .agg [.dat (.i op'), .dat (.i w'), .dat (.i n'), .dat (.str nm'), .dat (.seq .terms ks')]] (.dat (.bool (decide ((⟨op, w, n, nm, ks⟩ : V.Term) = ⟨op', w', n', nm', ks'⟩))))
theorem ih_eT {m : Nat} (ih : IHeT m) {op w n : Int} {nm : ByteArray} {ks : List V.Term} {op' w' n' : Int} {nm' : ByteArray} {ks' : List V.Term} (hs : sizeT ⟨op, w, n, nm, ks⟩ < m) : CallsV Tryz.prog 11 [.agg [.dat (.i op), .dat (.i w), .dat (.i n), .dat (.str nm), .dat (.seq .terms ks)], .agg [.dat (.i op'), .dat (.i w'), .dat (.i n'), .dat (.str nm'), .dat (.seq .terms ks')]] (.dat (.bool (decide ((⟨op, w, n, nm, ks⟩ : V.Term) = ⟨op', w', n', nm', ks'⟩)))) := ih.call op w n nm ks op' w' n' nm' ks' hs
set_option maxRecDepth 100000 in
theorem l_eS0 (m : Nat) (a b : List V.Term) (ih : IHeT m) (hm : sizeTs a < m) : CallsV Tryz.prog 13 [.dat (.seq .terms a), .dat (.seq .terms b)] (.dat (.bool (decide (a = b)))) := by
  refine CallsV.of_awp tauOk mixOk Tryz.func13 rfl rfl rfl ?_
  conv => whnf
  repeat' (first | ((with_reducible refine fun (K1 : AX → AState → Prop) hK => ?_); refine stK ⟨?_⟩) | ((with_reducible show K1 _ _); subst hK; conv => whnf) | (with_reducible exact rfl) | refine st0 ⟨?_⟩ | ((with_reducible refine SplS.mk (fun h => ?_) (fun h => ?_)) <;> first | exact ctA | (subst h; conv => whnf) | (conv => whnf)) | ((with_reducible refine SplB.mk (fun h => ?_) (fun h => ?_)) <;> first | exact ctR | (conv => whnf)) | (with_reducible first | refine bnd2 ?_ ?_ | refine bnd2' ?_ ?_ | refine bndN ?_ ?_) | ((with_reducible refine and_of ?_ ?_); conv => whnf) | (refine Exists.intro ({k : Nat // a.take k = b.take k}) (Exists.intro (fun ⟨k, hk⟩ => mkS Tryz.f13.ntmps [(0, .dat (.seq .terms a)), (1, .dat (.seq .terms b)), (5, .dat (.i k))] []) (Exists.intro (fun ⟨k, hk⟩ => a.length - k) (Exists.intro ⟨0, rfl⟩ (And.intro (SubP.sub (σ := []) ⟨⟨rfl, rfl, rfl⟩, ⟨(wk_dat ?_), (wk_dat ?_), (wk_dat ?_), trivial⟩, trivial⟩) (fun ⟨k, hk⟩ => ?_))))); rotate_right; conv => whnf) | (refine Exists.intro (⟨k + 1, ?_⟩ : {k : Nat // a.take k = b.take k}) (And.intro ?_ (SubP.sub (σ := []) ⟨⟨rfl, rfl, rfl⟩, ⟨(wk_dat ?_), (wk_dat ?_), (wk_dat ?_), trivial⟩, trivial⟩))) | ((with_reducible show Exists _); refine Exists.intro _ (And.intro (ih_eT (ih := by assumption) (hs := ?_) ..) (And.intro rfl ?_)); rotate_right; conv => whnf) | (intro h; conv => whnf))
  all_goals (repeat (clear hK; clear K1))
  all_goals first | (with_reducible assumption) | exact sz_el (by with_reducible assumption) hm | ((with_reducible show (_ : Nat) < _); (dsimp only; omega)) | ((with_reducible show (_ : Int) < _); omega) | ((with_reducible show (_ : Int) ≤ _); omega) | exact congrArg (Dat.int .i64) (wrap_succ (by with_reducible assumption) (by with_reducible assumption)).symm | exact congrArg Dat.bool (decide_eq_false (fun e => absurd (congrArg (fun x : List V.Term => (x.length : Int)) e) (by with_reducible assumption))) | exact congrArg Dat.bool (decide_eq_true (take_eq_end (by with_reducible assumption) (by omega) hk)) | (simp only [V.Term.eta, Int.toNat_natCast] at *; first | exact take_eq_step K.terms.dflt (by with_reducible assumption) (by omega) hk (of_decide_eq_true (by with_reducible assumption)) | exact take_eq_step K.terms.dflt (by with_reducible assumption) (by omega) hk (by with_reducible assumption) | exact congrArg Dat.bool (decide_eq_false (ne_of_getD (of_decide_eq_false (by with_reducible assumption)))) | exact congrArg Dat.bool (decide_eq_false (ne_of_getD (by with_reducible assumption)))) | rfl | skip
theorem eT_of {m : Nat} (ih : IHeS m) : IHeT (m + 1) := ⟨fun op w n nm ks op' w' n' nm' ks' hs => l_eT0 m op w n nm ks op' w' n' nm' ks' ih (by rw [sizeT] at hs; omega)⟩
theorem eS_all : ∀ m, IHeS m
  | 0 => ⟨fun _ _ h => absurd h (Nat.not_lt_zero _)⟩
  | m + 1 => ⟨fun a b hs => l_eS0 (m + 1) a b (eT_of (eS_all m)) hs⟩
theorem l_eqTermS (a b : List V.Term) : CallsV Tryz.prog 13 [.dat (.seq .terms a), .dat (.seq .terms b)] (.dat (.bool (decide (a = b)))) := (eS_all (sizeTs a + 1)).call a b (Nat.lt_succ_self _)
theorem l_eqTerm (op w n : Int) (nm : ByteArray) (ks : List V.Term) (op' w' n' : Int) (nm' : ByteArray) (ks' : List V.Term) : CallsV Tryz.prog 11 [.agg [.dat (.i op), .dat (.i w), .dat (.i n), .dat (.str nm), .dat (.seq .terms ks)], .agg [.dat (.i op'), .dat (.i w'), .dat (.i n'), .dat (.str nm'), .dat (.seq .terms ks')]] (.dat (.bool (decide ((⟨op, w, n, nm, ks⟩ : V.Term) = ⟨op', w', n', nm', ks'⟩)))) := (eT_of (eS_all (sizeT ⟨op, w, n, nm, ks⟩))).call op w n nm ks op' w' n' nm' ks' (Nat.lt_succ_self _)
end Vg

namespace Vg
open Go Go.Proofs
/-! ### the text of a mark -/
theorem u8_dg {m : Nat} (h : m < 10) : strOfNums [IntKind.u8.wrap (IntKind.i64.wrap (48 + (m : Int)))] = ⟨#[(48 + m).toUInt8]⟩ := by
  have : ∀ m : Nat, m < 10 → strOfNums [IntKind.u8.wrap (IntKind.i64.wrap (48 + (m : Int)))] = ⟨#[(48 + m).toUInt8]⟩ := by decide
  exact this m h
theorem mGo_fuel : ∀ {f k : Nat} {s : ByteArray}, k < f → mGo f k s = mGo (k + 1) k s
  | 0, k, s, h => absurd h (Nat.not_lt_zero _)
  | f + 1, k, s, h => by
    rw [mGo, mGo]
    by_cases c : k = 0
    · rw [if_pos c, if_pos c]
    · rw [if_neg c, if_neg c, mGo_fuel (f := f) (by omega), mGo_fuel (f := k) (by omega)]
structure TxI (k : Int) (q : Nat) (s : ByteArray) : Prop where
  e : mGo (q + 1) q s = mGo (k.toNat + 1) k.toNat ByteArray.empty
  s : s.size + q ≤ 2199023255552
theorem bytes_cat {a b : ByteArray} : (a ++ b).size = a.size + b.size := ByteArray.size_append
theorem tx_0 {k : Int} (h1 : k ≤ 2199023255552) : TxI k k.toNat ByteArray.empty := ⟨rfl, by show 0 + _ ≤ _; omega⟩
theorem tx_s {k : Int} {q : Nat} {s : ByteArray} (h : TxI k q s) (hq : (q : Int) > 0) : TxI k (q / 10) (⟨#[(48 + q % 10).toUInt8]⟩ ++ s) := by
  refine ⟨?_, ?_⟩
  · rw [← h.e, mGo_step (f := q + 1) (k := q) (by omega) (by omega), Nat.add_sub_cancel, mGo_fuel (f := q) (by omega)]
  · rw [bytes_cat]
    have := h.s
    have e : (ByteArray.mk #[(48 + q % 10).toUInt8]).size = 1 := rfl
    rw [e]; omega
theorem tx_n {k : Int} {q : Nat} {s : ByteArray} (h : TxI k q s) (hk : ¬ k ≤ 0) (hq : ¬ (q : Int) > 0) : mText k = ⟨#[109]⟩ ++ s := by
  obtain rfl : q = 0 := by omega
  have e := h.e
  rw [mGo_end] at e
  unfold mText
  rw [if_neg hk, ← e]
theorem tx_d {q : Nat} : strOfNums [IntKind.u8.wrap (IntKind.i64.wrap (48 + (q : Int).tmod 10))] = ⟨#[(48 + q % 10).toUInt8]⟩ := by
  have e : (q : Int).tmod 10 = ((q % 10 : Nat) : Int) := by rw [Int.tmod_eq_emod_of_nonneg (by omega)]; omega
  rw [e]
  exact u8_dg (Nat.mod_lt _ (by decide))
theorem tx_q {q : Nat} (h : q ≤ 2199023255552) : IntKind.i64.wrap ((q : Int).tdiv 10) = ((q / 10 : Nat) : Int) := by
  have e : (q : Int).tdiv 10 = ((q / 10 : Nat) : Int) := by rw [Int.tdiv_eq_ediv_of_nonneg (by omega)]; omega
  rw [e, wrap_id (by omega) (by omega)]
set_option maxRecDepth 100000 in
theorem l_markText (k : Int) (h1 : k ≤ 2199023255552) : CallsV Tryz.prog 33 [.dat (.i k)] (.dat (.str (mText k))) := by
  refine CallsV.of_awp tauOk mixOk Tryz.func33 rfl rfl rfl ?_
  conv => whnf
  repeat' (first | ((with_reducible refine fun (K1 : AX → AState → Prop) hK => ?_); refine stK ⟨?_⟩) | ((with_reducible show K1 _ _); subst hK; conv => whnf) | (with_reducible exact rfl) | refine st0 ⟨?_⟩ | ((with_reducible refine SplS.mk (fun h => ?_) (fun h => ?_)) <;> first | exact ctA | (subst h; conv => whnf) | (conv => whnf)) | ((with_reducible refine SplB.mk (fun h => ?_) (fun h => ?_)) <;> first | exact ctR | (conv => whnf)) | ((with_reducible refine and_of ?_ ?_); conv => whnf) | (refine Exists.intro ({x : Nat × ByteArray // TxI k x.1 x.2}) (Exists.intro (fun ⟨⟨q, s⟩, hx⟩ => mkS Tryz.f33.ntmps [(0, .dat (.i (q : Int))), (3, .dat (.str s))] []) (Exists.intro (fun ⟨⟨q, s⟩, hx⟩ => q) (Exists.intro ⟨⟨k.toNat, ByteArray.empty⟩, ?_⟩ (And.intro (SubP.sub (σ := []) ⟨⟨rfl, rfl, rfl⟩, ⟨(wk_dat ?_), (wk_dat ?_), trivial⟩, trivial⟩) (fun ⟨⟨q, s⟩, hx⟩ => ?_))))); rotate_right; conv => whnf) | (refine Exists.intro (⟨⟨q / 10, ⟨#[(48 + q % 10).toUInt8]⟩ ++ s⟩, ?_⟩ : {x : Nat × ByteArray // TxI k x.1 x.2}) (And.intro ?_ (SubP.sub (σ := []) ⟨⟨rfl, rfl, rfl⟩, ⟨(wk_dat ?_), (wk_dat ?_), trivial⟩, trivial⟩))) | (intro h; conv => whnf))
  all_goals (repeat (clear hK; clear K1))
  all_goals first | exact congrArg Dat.str (by unfold mText; rw [if_pos (by with_reducible assumption)]) | exact tx_0 h1 | exact tx_s hx (by with_reducible assumption) | exact congrArg Dat.str (tx_n hx (by with_reducible assumption) (by with_reducible assumption)) | (refine congrArg Dat.str ?_; rw [tx_d]) | (refine congrArg Dat.i ?_; first | (rw [tx_q (by have := hx.s; dsimp only at this; omega)]; done) | omega) | exact absurd h (by decide) | ((with_reducible show _ + _ ≤ _); have := hx.s; have hm : maxLen = 9223372036854775807 := rfl; dsimp only at this; rw [hm]; first | (rw [tx_d]; show 1 + s.size ≤ _; omega) | (show 1 + s.size ≤ _; omega)) | ((with_reducible show (_ : Nat) < _); dsimp only; omega) | rfl | skip
/-! ### marks in terms -/
theorem wk_1 {k : Int} (h0 : 0 ≤ k) (h1 : k ≤ 2199023255552) : IntKind.i64.wrap (k + 1) = k + 1 := wrap_id (by omega) (by omega)
theorem wk_2 {k : Int} (h0 : 0 ≤ k) (h1 : k ≤ 1099511627776) : IntKind.i64.wrap (IntKind.i64.wrap (k + 1) + 1) = k + 2 := by rw [wk_1 h0 (by omega), wk_1 (by omega) (by omega)]; omega
theorem wk_3 {k : Int} (h0 : 0 ≤ k) (h1 : k ≤ 1099511627776) : IntKind.i64.wrap (IntKind.i64.wrap (IntKind.i64.wrap (k + 1) + 1) + 1) = k + 3 := by rw [wk_2 h0 h1, wk_1 (by omega) (by omega)]; omega
theorem wk_4 {k : Int} (h0 : 0 ≤ k) (h1 : k ≤ 1099511627776) : IntKind.i64.wrap (IntKind.i64.wrap (IntKind.i64.wrap (IntKind.i64.wrap (k + 1) + 1) + 1) + 1) = k + 4 := by rw [wk_3 h0 h1, wk_1 (by omega) (by omega)]; omega
theorem cntTs_tk (l : List V.Term) (k : Nat) : cntTs (l.take k) ≤ cntTs l := by
  have h := cntTs_app (l.take k) (l.drop k)
  rw [List.take_append_drop] at h
  omega
theorem cntTs_4 {l : List V.Term} {i : Nat} (h : (i : Int) < l.length) : cntTs (l.take i) + 4 + cntTs (l.getD i K.terms.dflt).kids ≤ cntTs l := by
  have h1 := cntTo_step h
  have h2 := cntTs_tk l (i + 1)
  rw [cntT_eq] at h1
  omega
theorem sz_elk {l : List V.Term} {k m : Nat} (h : (k : Int) < l.length) (hm : sizeTs l ≤ m) : sizeTs (l.getD k K.terms.dflt).kids < m := by
  have h1 : sizeT (kAt l k) ≤ sizeTs l := sizeTs_at (by omega)
  have h2 : sizeT (kAt l k) = 1 + sizeTs (kAt l k).kids := by cases kAt l k; rw [sizeT]
  show sizeTs (kAt l k).kids < m
  omega
structure IHm (m : Nat) : Prop where
  call : ∀ (l : List V.Term) (k : Int), sizeTs l < m → 0 ≤ k → k + cntTs l ≤ 1099511627776 → CallsG Tryz.prog 15 [.row 0, .dat (.i k)] [.tree 32 .terms l] 1 (fun res B => res = .dat (.i (k + (cntTs l : Nat))) ∧ B = [.tree 32 .terms (mkT2 l k)])
theorem ih_m {m : Nat} (ih : IHm m) {l : List V.Term} {k : Int} (hs : sizeTs l < m) (h0 : 0 ≤ k) (h1 : k + cntTs l ≤ 1099511627776) : CallsG Tryz.prog 15 [.row 0, .dat (.i k)] [.tree 32 .terms l] 1 (fun res B => res = .dat (.i (k + (cntTs l : Nat))) ∧ B = [.tree 32 .terms (mkT2 l k)]) := ih.call l k hs h0 h1
theorem mkTo_5 {k k1 k2 k3 : Int} {l : List V.Term} {i : Nat} (h : (i : Int) < l.length) (hi : i ≤ l.length) (h1 : k1 = k + cntTs (l.take i) + 1) (h2 : k2 = k + cntTs (l.take i) + 2) (h3 : k3 = k + cntTs (l.take i) + 3)
    {L1 L2 L3 L4 : List V.Term}
    (e4 : L4 = L3.set (i : Int).toNat ⟨(L3.getD (i : Int).toNat K.terms.dflt).op, (L3.getD (i : Int).toNat K.terms.dflt).w, (L3.getD (i : Int).toNat K.terms.dflt).n, mText k3, (L3.getD (i : Int).toNat K.terms.dflt).kids⟩)
    (e3 : L3 = L2.set (i : Int).toNat ⟨(L2.getD (i : Int).toNat K.terms.dflt).op, (L2.getD (i : Int).toNat K.terms.dflt).w, k2, (L2.getD (i : Int).toNat K.terms.dflt).name, (L2.getD (i : Int).toNat K.terms.dflt).kids⟩)
    (e2 : L2 = L1.set (i : Int).toNat ⟨(L1.getD (i : Int).toNat K.terms.dflt).op, k1, (L1.getD (i : Int).toNat K.terms.dflt).n, (L1.getD (i : Int).toNat K.terms.dflt).name, (L1.getD (i : Int).toNat K.terms.dflt).kids⟩)
    (e1 : L1 = (mkTo k l i).set (i : Int).toNat ⟨k + cntTs (l.take i), ((mkTo k l i).getD (i : Int).toNat K.terms.dflt).w, ((mkTo k l i).getD (i : Int).toNat K.terms.dflt).n, ((mkTo k l i).getD (i : Int).toNat K.terms.dflt).name, ((mkTo k l i).getD (i : Int).toNat K.terms.dflt).kids⟩) :
    L4.getD (i : Int).toNat K.terms.dflt = ⟨k + cntTs (l.take i), k + cntTs (l.take i) + 1, k + cntTs (l.take i) + 2, mText (k + cntTs (l.take i) + 3), (l.getD i K.terms.dflt).kids⟩ ∧ L4.length = l.length ∧ L3.length = l.length ∧ L2.length = l.length ∧ L1.length = l.length ∧
      ∀ x, L4.set i x = (mkTo k l i).set i x := by
  have hlen := mkTo_len (k := k) hi
  have h' : i < (mkTo k l i).length := by omega
  rw [Int.toNat_natCast] at e1 e2 e3 e4 ⊢
  subst h1 h2 h3
  rw [mkTo_get h] at e1
  subst e1
  rw [set_getD h', List.set_set] at e2; subst e2
  rw [set_getD h', List.set_set] at e3; subst e3
  rw [set_getD h', List.set_set] at e4; subst e4
  refine ⟨set_getD h', ?_, ?_, ?_, ?_, fun x => ?_⟩
  · rw [List.length_set, hlen]
  · rw [List.length_set, hlen]
  · rw [List.length_set, hlen]
  · rw [List.length_set, hlen]
  · rw [List.set_set]
theorem mkTo_6 {k k4 : Int} {l L4 L5 : List V.Term} {i : Nat} (h : (i : Int) < l.length) (h4 : k4 = k + cntTs (l.take i) + 4)
    (e : L4.getD (i : Int).toNat K.terms.dflt = ⟨k + cntTs (l.take i), k + cntTs (l.take i) + 1, k + cntTs (l.take i) + 2, mText (k + cntTs (l.take i) + 3), (l.getD i K.terms.dflt).kids⟩) (es : ∀ x, L4.set i x = (mkTo k l i).set i x)
    (e5 : L5 = L4.set (i : Int).toNat ⟨(L4.getD (i : Int).toNat K.terms.dflt).op, (L4.getD (i : Int).toNat K.terms.dflt).w, (L4.getD (i : Int).toNat K.terms.dflt).n, (L4.getD (i : Int).toNat K.terms.dflt).name, mkT2 (L4.getD (i : Int).toNat K.terms.dflt).kids k4⟩) :
    mkTo k l (i + 1) = L5 ∧ k + (cntTs (l.take (i + 1)) : Nat) = k4 + (cntTs (L4.getD (i : Int).toNat K.terms.dflt).kids : Nat) := by
  rw [e] at e5 ⊢
  rw [Int.toNat_natCast] at e5
  subst h4
  refine ⟨?_, ?_⟩
  · rw [e5, es, ← mkTo_step h, mkT1_eq]
  · rw [cntTo_step h, cntT_eq]; push_cast; omega
theorem mk_lt {k : Int} {l : List V.Term} {i : Nat} (hi : i ≤ l.length) (h : (i : Int) < ((mkTo k l i).length : Nat)) : (i : Int) < l.length := by rwa [mkTo_len hi] at h
set_option maxHeartbeats 4000000 in
set_option maxRecDepth 100000 in
theorem g_mS0 (m : Nat) (l : List V.Term) (k : Int) (ih : IHm m) (hm : sizeTs l ≤ m) (h0 : 0 ≤ k) (h1 : k + cntTs l ≤ 1099511627776) : CallsG Tryz.prog 15 [.row 0, .dat (.i k)] [.tree 32 .terms l] 1 (fun res B => res = .dat (.i (k + (cntTs l : Nat))) ∧ B = [.tree 32 .terms (mkT2 l k)]) := by
  refine CallsG.of_awp tauOk mixOk Tryz.func15 rfl rfl rfl ?_
  conv => whnf
  repeat' (first | ((with_reducible refine fun (K1 : AX → AState → Prop) hK => ?_); refine stK ⟨?_⟩) | ((with_reducible show K1 _ _); subst hK; conv => whnf) | (with_reducible exact rfl) | refine st0 ⟨?_⟩ | ((with_reducible refine SplS.mk (fun h => ?_) (fun h => ?_)) <;> first | exact ctA | (subst h; conv => whnf) | (conv => whnf)) | ((with_reducible refine SplB.mk (fun h => ?_) (fun h => ?_)) <;> first | exact ctR | (conv => whnf)) | (with_reducible first | refine bnd2 ?_ ?_ | refine bnd2' ?_ ?_ | refine bndN ?_ ?_) | ((with_reducible refine and_of ?_ ?_); conv => whnf) | (refine Exists.intro ({i : Nat // i ≤ l.length}) (Exists.intro (fun ⟨i, hi⟩ => mkS Tryz.f15.ntmps [(0, .row 900000), (1, .dat (.i (k + (cntTs (l.take i) : Nat)))), (5, .dat (.i i))] [(900000, .tree 32 .terms (mkTo k l i))]) (Exists.intro (fun ⟨i, hi⟩ => l.length - i) (Exists.intro ⟨0, Nat.zero_le _⟩ (And.intro (SubP.sub (σ := [(900000, some 900000)]) ⟨⟨rfl, rfl, rfl⟩, ⟨rfl, (wk_dat ?_), (wk_dat ?_), trivial⟩, ⟨⟨rfl, ?_⟩, trivial⟩⟩) (fun ⟨i, hi⟩ => ?_))))); rotate_right; conv => whnf) | (refine Exists.intro (⟨i + 1, ?_⟩ : {i : Nat // i ≤ l.length}) (And.intro ?_ (SubP.sub (σ := [(900000, some 900000)]) ⟨⟨rfl, rfl, rfl⟩, ⟨rfl, (wk_dat ?_), (wk_dat ?_), trivial⟩, ⟨⟨rfl, ?_⟩, trivial⟩⟩))) | ((with_reducible refine pcI (g := 33) ?_); refine ⟨_, l_markText (h1 := ?_) .., rfl, ?_⟩; rotate_right; conv => whnf) | ((with_reducible show Exists _); refine Exists.intro _ (And.intro (l_markText (h1 := ?_) ..) (And.intro rfl ?_)); rotate_right; conv => whnf) | ((with_reducible refine mcI (g := 15) ?_); refine ⟨_, ih_m (ih := by assumption) (hs := ?_) (h0 := ?_) (h1 := ?_) .., fun res B hRB => ?_⟩; rotate_right; obtain ⟨rfl, rfl⟩ := hRB; conv => whnf) | (intro h; conv => whnf))
  all_goals (repeat (clear hK; clear K1))
  all_goals try (have hc := cntTs_tk l i; have w1 := wk_1 (k := k + cntTs (l.take i)) (by omega) (by omega); have w2 := wk_2 (k := k + cntTs (l.take i)) (by omega) (by omega); have w3 := wk_3 (k := k + cntTs (l.take i)) (by omega) (by omega); have w4 := wk_4 (k := k + cntTs (l.take i)) (by omega) (by omega))
  all_goals first | (with_reducible assumption) | ((with_reducible show (0 : Int) ≤ _); omega) | exact congrArg (Dat.int .i64) (wrap_succ (by with_reducible assumption) (by with_reducible assumption)).symm | exact tree_fin (mkTo_end (by rw [mkTo_len hi] at h; exact h) hi) | (refine congrArg (fun x => AV.dat (Dat.i x)) ?_; rw [mkTo_len hi] at h; rw [List.take_of_length_le (by omega)]) | (refine congrArg Dat.i ?_; rw [List.take_zero, cntTs]; omega) | (have hb := mk_lt hi (by with_reducible assumption); first | omega | ((with_reducible show (_ : Nat) < _); (dsimp only; omega)) | ((with_reducible show (_ : Int) ≤ _); omega) | (have q := mkTo_5 hb hi w1 w2 w3 (by with_reducible assumption) (by with_reducible assumption) (by with_reducible assumption) (by with_reducible assumption); have c4 := cntTs_4 hb; first | exact sig_fin (mkTo_6 hb w4 q.1 q.2.2.2.2.2 (by with_reducible assumption)).1 | exact congrArg Dat.i (mkTo_6 hb w4 q.1 q.2.2.2.2.2 (by with_reducible assumption)).2 | (rw [q.1]; first | exact sz_elk hb hm | (dsimp only; omega))) | (subst_vars; simp only [List.length_set, mkTo_len hi]; omega)) | rfl | skip
end Vg

namespace Vg
open Go Go.Proofs
theorem mkT2_get : ∀ {l : List V.Term} {k : Int} {i : Nat}, i < l.length → (mkT2 l k).getD i K.terms.dflt = mkT1 (l.getD i K.terms.dflt) (k + cntTs (l.take i))
  | t :: ts, k, 0, _ => by
    rw [mkT2]
    show mkT1 t k = mkT1 t (k + cntTs [])
    rw [cntTs]; congr 1; omega
  | t :: ts, k, i + 1, h => by
    rw [mkT2]
    show (mkT2 ts (k + cntT t)).getD i _ = mkT1 (ts.getD i _) (k + cntTs (t :: ts.take i))
    rw [mkT2_get (by simpa using h), cntTs]; congr 1; push_cast; omega
theorem mkT2_kids : ∀ (ks : List V.Term) (k j : Int), mkT2 (mkT2 ks k) j = mkT2 ks j ∧ cntTs (mkT2 ks k) = cntTs ks
  | [], k, j => by rw [mkT2, mkT2]; exact ⟨rfl, rfl⟩
  | ⟨op, w, n, nm, ks⟩ :: ts, k, j => by
    have h1 := mkT2_kids ks (k + 4) (j + 4)
    have h2 : cntT ⟨k, k + 1, k + 2, mText (k + 3), mkT2 ks (k + 4)⟩ = cntT ⟨op, w, n, nm, ks⟩ := by rw [cntT, cntT, h1.2]
    have h3 := mkT2_kids ts (k + cntT ⟨op, w, n, nm, ks⟩) (j + cntT ⟨op, w, n, nm, ks⟩)
    have e : mkT2 (⟨op, w, n, nm, ks⟩ :: ts) k = ⟨k, k + 1, k + 2, mText (k + 3), mkT2 ks (k + 4)⟩ :: mkT2 ts (k + cntT ⟨op, w, n, nm, ks⟩) := by rw [mkT2, mkT1]
    rw [e]
    refine ⟨?_, ?_⟩
    · rw [mkT2, h2, h3.1, mkT1, h1.1, mkT2, mkT1]
    · rw [cntTs, h2, h3.2, cntTs]
structure IHh (m : Nat) : Prop where
  call : ∀ (c : List V.Term) (k : Int), sizeTs c < m → mkT2 c k = c → 0 ≤ k → k + cntTs c ≤ 1099511627776 → CallsV Tryz.prog 34 [.dat (.seq .terms c), .dat (.i k)] (.dat (.i (k + (cntTs c : Nat))))
theorem ih_h {m : Nat} (ih : IHh m) {c : List V.Term} {k : Int} (hs : sizeTs c < m) (hc : mkT2 c k = c) (h0 : 0 ≤ k) (h1 : k + cntTs c ≤ 1099511627776) : CallsV Tryz.prog 34 [.dat (.seq .terms c), .dat (.i k)] (.dat (.i (k + (cntTs c : Nat)))) := ih.call c k hs hc h0 h1
theorem held_el {c : List V.Term} {k : Int} {i : Nat} (hc : mkT2 c k = c) (h : (i : Int) < c.length) : (c.getD (i : Int).toNat K.terms.dflt).op = k + cntTs (c.take i) ∧ (c.getD (i : Int).toNat K.terms.dflt).w = k + cntTs (c.take i) + 1 ∧ (c.getD (i : Int).toNat K.terms.dflt).n = k + cntTs (c.take i) + 2 ∧
    (c.getD (i : Int).toNat K.terms.dflt).name = mText (k + cntTs (c.take i) + 3) ∧ mkT2 (c.getD (i : Int).toNat K.terms.dflt).kids (k + cntTs (c.take i) + 4) = (c.getD (i : Int).toNat K.terms.dflt).kids := by
  have q := mkT2_get (l := c) (k := k) (i := i) (by omega)
  rw [hc, mkT1_eq] at q
  rw [Int.toNat_natCast]
  refine ⟨?_, ?_, ?_, ?_, ?_⟩
  · conv => lhs; rw [q]
  · conv => lhs; rw [q]
  · conv => lhs; rw [q]
  · conv => lhs; rw [q]
  · exact (congrArg V.Term.kids q).symm
set_option maxHeartbeats 4000000 in
set_option maxRecDepth 100000 in
theorem l_hS0 (m : Nat) (c : List V.Term) (k : Int) (ih : IHh m) (hm : sizeTs c ≤ m) (hc : mkT2 c k = c) (h0 : 0 ≤ k) (h1 : k + cntTs c ≤ 1099511627776) : CallsV Tryz.prog 34 [.dat (.seq .terms c), .dat (.i k)] (.dat (.i (k + (cntTs c : Nat)))) := by
  refine CallsV.of_awp tauOk mixOk Tryz.func34 rfl rfl rfl ?_
  conv => whnf
  repeat' (first | ((with_reducible refine fun (K1 : AX → AState → Prop) hK => ?_); refine stK ⟨?_⟩) | ((with_reducible show K1 _ _); subst hK; conv => whnf) | (with_reducible exact rfl) | refine st0 ⟨?_⟩ | ((with_reducible refine SplS.mk (fun h => ?_) (fun h => ?_)) <;> first | exact ctA | (subst h; conv => whnf) | (conv => whnf)) | ((with_reducible refine SplB.mk (fun h => ?_) (fun h => ?_)) <;> first | exact ctR | (conv => whnf)) | (with_reducible first | refine bnd2 ?_ ?_ | refine bnd2' ?_ ?_ | refine bndN ?_ ?_) | ((with_reducible refine and_of ?_ ?_); conv => whnf) | (refine Exists.intro ({i : Nat // i ≤ c.length}) (Exists.intro (fun ⟨i, hi⟩ => mkS Tryz.f34.ntmps [(0, .dat (.seq .terms c)), (1, .dat (.i (k + (cntTs (c.take i) : Nat)))), (5, .dat (.i i))] []) (Exists.intro (fun ⟨i, hi⟩ => c.length - i) (Exists.intro ⟨0, Nat.zero_le _⟩ (And.intro (SubP.sub (σ := []) ⟨⟨rfl, rfl, rfl⟩, ⟨(wk_dat ?_), (wk_dat ?_), (wk_dat ?_), trivial⟩, trivial⟩) (fun ⟨i, hi⟩ => ?_))))); rotate_right; conv => whnf) | (refine Exists.intro (⟨i + 1, ?_⟩ : {i : Nat // i ≤ c.length}) (And.intro ?_ (SubP.sub (σ := []) ⟨⟨rfl, rfl, rfl⟩, ⟨(wk_dat ?_), (wk_dat ?_), (wk_dat ?_), trivial⟩, trivial⟩))) | ((with_reducible refine pcI (g := 33) ?_); refine ⟨_, l_markText (h1 := ?_) .., rfl, ?_⟩; rotate_right; conv => whnf) | ((with_reducible show Exists _); refine Exists.intro _ (And.intro (l_markText (h1 := ?_) ..) (And.intro rfl ?_)); rotate_right; conv => whnf) | ((with_reducible refine pcI (g := 34) ?_); refine ⟨_, ih_h (ih := by assumption) (hs := ?_) (hc := ?_) (h0 := ?_) (h1 := ?_) .., rfl, ?_⟩; rotate_right; conv => whnf) | ((with_reducible show Exists _); refine Exists.intro _ (And.intro (ih_h (ih := by assumption) (hs := ?_) (hc := ?_) (h0 := ?_) (h1 := ?_) ..) (And.intro rfl ?_)); rotate_right; conv => whnf) | (intro h; conv => whnf))
  all_goals (repeat (clear hK; clear K1))
  all_goals try (have hq := cntTs_tk c i; have w1 := wk_1 (k := k + cntTs (c.take i)) (by omega) (by omega); have w2 := wk_2 (k := k + cntTs (c.take i)) (by omega) (by omega); have w3 := wk_3 (k := k + cntTs (c.take i)) (by omega) (by omega); have w4 := wk_4 (k := k + cntTs (c.take i)) (by omega) (by omega))
  all_goals first | (with_reducible assumption) | ((with_reducible show (_ : Nat) < _); (dsimp only; omega)) | exact congrArg (Dat.int .i64) (wrap_succ (by with_reducible assumption) (by with_reducible assumption)).symm | (refine congrArg Dat.i ?_; rw [List.take_zero, cntTs]; omega) | (refine congrArg Dat.i ?_; rw [List.take_of_length_le (show c.length ≤ i by omega)]) | (have hb := (show (i : Int) < c.length by with_reducible assumption); have q := held_el hc hb; have c4 := cntTs_4 hb; rw [Int.toNat_natCast] at *; first | ((with_reducible show (_ : Int) ≤ _); omega) | ((with_reducible show (_ : Int) < _); omega) | exact sz_elk hb hm | exact absurd q.1 (by with_reducible assumption) | exact absurd (q.2.1.trans w1.symm) (by with_reducible assumption) | exact absurd (q.2.2.1.trans w2.symm) (by with_reducible assumption) | exact absurd (q.2.2.2.1.trans (congrArg mText w3.symm)) (str_ne (by with_reducible assumption)) | ((with_reducible show (_ : Nat) ≤ _); omega) | (rw [w4]; exact q.2.2.2.2) | (refine congrArg Dat.i ?_; rw [w4, cntTo_step hb, cntT_eq]; push_cast; omega) | (exfalso; omega)) | rfl | skip
theorem mS_all : ∀ m, IHm m
  | 0 => ⟨fun _ _ h => absurd h (Nat.not_lt_zero _)⟩
  | m + 1 => ⟨fun l k hs h0 h1 => g_mS0 m l k (mS_all m) (Nat.le_of_lt_succ hs) h0 h1⟩
theorem g_markTermS (l : List V.Term) (k : Int) (h0 : 0 ≤ k) (h1 : k + cntTs l ≤ 1099511627776) : CallsG Tryz.prog 15 [.row 0, .dat (.i k)] [.tree 32 .terms l] 1 (fun res B => res = .dat (.i (k + (cntTs l : Nat))) ∧ B = [.tree 32 .terms (mkT2 l k)]) := (mS_all (sizeTs l + 1)).call l k (Nat.lt_succ_self _) h0 h1
theorem hS_all : ∀ m, IHh m
  | 0 => ⟨fun _ _ h => absurd h (Nat.not_lt_zero _)⟩
  | m + 1 => ⟨fun c k hs hc h0 h1 => l_hS0 m c k (hS_all m) (Nat.le_of_lt_succ hs) hc h0 h1⟩
theorem l_heldTermS (l : List V.Term) (k : Int) (h0 : 0 ≤ k) (h1 : k + cntTs l ≤ 1099511627776) : CallsV Tryz.prog 34 [.dat (.seq .terms (mkT2 l k)), .dat (.i k)] (.dat (.i (k + (cntTs l : Nat)))) := by
  have e := mkT2_kids l k k
  have := (hS_all (sizeTs (mkT2 l k) + 1)).call (mkT2 l k) k (Nat.lt_succ_self _) e.1 h0 (by rw [e.2]; exact h1)
  rwa [e.2] at this
set_option maxRecDepth 100000 in
theorem l_mTS0 (k : Int) : CallsV Tryz.prog 15 [.dat (.seq .terms []), .dat (.i k)] (.dat (.i k)) := by
  refine CallsV.of_awp tauOk mixOk Tryz.func15 rfl rfl rfl ?_
  conv => whnf
  repeat' (first | ((with_reducible refine fun (K1 : AX → AState → Prop) hK => ?_); refine stK ⟨?_⟩) | ((with_reducible show K1 _ _); subst hK; conv => whnf) | (with_reducible exact rfl) | refine st0 ⟨?_⟩ | ((with_reducible refine SplS.mk (fun h => ?_) (fun h => ?_)) <;> first | exact ctA | (subst h; conv => whnf) | (conv => whnf)) | ((with_reducible refine SplB.mk (fun h => ?_) (fun h => ?_)) <;> first | exact ctR | (conv => whnf)) | ((with_reducible refine and_of ?_ ?_); conv => whnf) | (refine Exists.intro (Unit) (Exists.intro (fun _ => mkS Tryz.f15.ntmps [(0, .dat (.seq .terms [])), (1, .dat (.i k)), (5, .dat (.i 0))] []) (Exists.intro (fun _ => 0) (Exists.intro () (And.intro (SubP.sub (σ := []) ⟨⟨rfl, rfl, rfl⟩, ⟨(wk_dat ?_), (wk_dat ?_), (wk_dat ?_), trivial⟩, trivial⟩) (fun _ => ?_))))); rotate_right; conv => whnf) | (refine Exists.intro () (And.intro ?_ (SubP.sub (σ := []) ⟨⟨rfl, rfl, rfl⟩, ⟨(wk_dat ?_), (wk_dat ?_), (wk_dat ?_), trivial⟩, trivial⟩))) | (intro h; conv => whnf))
  all_goals (repeat (clear hK; clear K1))
  all_goals first | rfl | assumption | exact Bool.noConfusion (h.symm.trans hp) | omega | (dsimp only; omega)
set_option maxRecDepth 100000 in
theorem l_hTS0 (k : Int) : CallsV Tryz.prog 34 [.dat (.seq .terms []), .dat (.i k)] (.dat (.i k)) := by
  refine CallsV.of_awp tauOk mixOk Tryz.func34 rfl rfl rfl ?_
  conv => whnf
  repeat' (first | ((with_reducible refine fun (K1 : AX → AState → Prop) hK => ?_); refine stK ⟨?_⟩) | ((with_reducible show K1 _ _); subst hK; conv => whnf) | (with_reducible exact rfl) | refine st0 ⟨?_⟩ | ((with_reducible refine SplS.mk (fun h => ?_) (fun h => ?_)) <;> first | exact ctA | (subst h; conv => whnf) | (conv => whnf)) | ((with_reducible refine SplB.mk (fun h => ?_) (fun h => ?_)) <;> first | exact ctR | (conv => whnf)) | ((with_reducible refine and_of ?_ ?_); conv => whnf) | (refine Exists.intro (Unit) (Exists.intro (fun _ => mkS Tryz.f34.ntmps [(0, .dat (.seq .terms [])), (1, .dat (.i k)), (5, .dat (.i 0))] []) (Exists.intro (fun _ => 0) (Exists.intro () (And.intro (SubP.sub (σ := []) ⟨⟨rfl, rfl, rfl⟩, ⟨(wk_dat ?_), (wk_dat ?_), (wk_dat ?_), trivial⟩, trivial⟩) (fun _ => ?_))))); rotate_right; conv => whnf) | (refine Exists.intro () (And.intro ?_ (SubP.sub (σ := []) ⟨⟨rfl, rfl, rfl⟩, ⟨(wk_dat ?_), (wk_dat ?_), (wk_dat ?_), trivial⟩, trivial⟩))) | (intro h; conv => whnf))
  all_goals (repeat (clear hK; clear K1))
  all_goals first | rfl | assumption | exact Bool.noConfusion (h.symm.trans hp) | omega | (dsimp only; omega)
/-! ### the marks of a term that is handed back: its kids lie in memory of their own, or it has none -/
set_option maxRecDepth 100000 in
theorem g_markTerm (op w n : Int) (nm : ByteArray) (ks : List V.Term) (k : Int) (h0 : 0 ≤ k) (h1 : k + cntTs ks ≤ 1099511627776) : CallsG Tryz.prog 16 [.agg [.dat (.i op), .dat (.i w), .dat (.i n), .dat (.str nm), .row 0], .dat (.i k)] [.tree 32 .terms ks] 1 (fun res B => res = .dat (.i (k + (cntTs ks : Nat))) ∧ B = [.tree 32 .terms (mkT2 ks k)]) := by
  refine CallsG.of_awp tauOk mixOk Tryz.func16 rfl rfl rfl ?_
  conv => whnf
  repeat' (first | ((with_reducible refine fun (K1 : AX → AState → Prop) hK => ?_); refine stK ⟨?_⟩) | ((with_reducible show K1 _ _); subst hK; conv => whnf) | (with_reducible exact rfl) | ((with_reducible refine SplS.mk (fun h => ?_) (fun h => ?_)) <;> first | exact ctA | (subst h; conv => whnf) | (conv => whnf)) | ((with_reducible refine SplB.mk (fun h => ?_) (fun h => ?_)) <;> first | exact ctR | (conv => whnf)) | ((with_reducible refine and_of ?_ ?_); conv => whnf) | ((with_reducible refine gcI (g := 15) ?_); refine ⟨_, _, g_markTermS (h0 := ?_) (h1 := ?_) .., fun res B hRB => ?_⟩; rotate_right; obtain ⟨rfl, rfl⟩ := hRB; conv => whnf) | (intro h; conv => whnf))
  all_goals (repeat (clear hK; clear K1))
  all_goals first | (with_reducible assumption) | exact ⟨rfl, rfl⟩ | rfl | skip
set_option maxRecDepth 100000 in
theorem l_heldTerm (op w n : Int) (nm : ByteArray) (ks : List V.Term) (k : Int) (h0 : 0 ≤ k) (h1 : k + cntTs ks ≤ 1099511627776) : CallsV Tryz.prog 17 [.agg [.dat (.i op), .dat (.i w), .dat (.i n), .dat (.str nm), .dat (.seq .terms (mkT2 ks k))], .dat (.i k)] (.dat (.i (k + (cntTs ks : Nat)))) := by
  refine CallsV.of_awp tauOk mixOk Tryz.func17 rfl rfl rfl ?_
  conv => whnf
  repeat' (first | ((with_reducible refine fun (K1 : AX → AState → Prop) hK => ?_); refine stK ⟨?_⟩) | ((with_reducible show K1 _ _); subst hK; conv => whnf) | (with_reducible exact rfl) | refine st0 ⟨?_⟩ | ((with_reducible refine SplS.mk (fun h => ?_) (fun h => ?_)) <;> first | exact ctA | (subst h; conv => whnf) | (conv => whnf)) | ((with_reducible refine SplB.mk (fun h => ?_) (fun h => ?_)) <;> first | exact ctR | (conv => whnf)) | ((with_reducible refine and_of ?_ ?_); conv => whnf) | ((with_reducible refine pcI (g := 34) ?_); refine ⟨_, l_heldTermS (h0 := ?_) (h1 := ?_) .., rfl, ?_⟩; rotate_right; conv => whnf) | ((with_reducible show Exists _); refine Exists.intro _ (And.intro (l_heldTermS (h0 := ?_) (h1 := ?_) ..) (And.intro rfl ?_)); rotate_right; conv => whnf) | (intro h; conv => whnf))
  all_goals (repeat (clear hK; clear K1))
  all_goals first | (with_reducible assumption) | rfl | (exfalso; omega) | skip
set_option maxRecDepth 100000 in
theorem l_markTerm0 (op w n : Int) (nm : ByteArray) (k : Int) : CallsV Tryz.prog 16 [.agg [.dat (.i op), .dat (.i w), .dat (.i n), .dat (.str nm), .dat (.seq .terms [])], .dat (.i k)] (.dat (.i k)) := by
  refine CallsV.of_awp tauOk mixOk Tryz.func16 rfl rfl rfl ?_
  conv => whnf
  repeat' (first | ((with_reducible refine fun (K1 : AX → AState → Prop) hK => ?_); refine stK ⟨?_⟩) | ((with_reducible show K1 _ _); subst hK; conv => whnf) | (with_reducible exact rfl) | ((with_reducible refine SplS.mk (fun h => ?_) (fun h => ?_)) <;> first | exact ctA | (subst h; conv => whnf) | (conv => whnf)) | ((with_reducible refine SplB.mk (fun h => ?_) (fun h => ?_)) <;> first | exact ctR | (conv => whnf)) | ((with_reducible refine and_of ?_ ?_); conv => whnf) | ((with_reducible refine pcI (g := 15) ?_); refine ⟨_, l_mTS0 .., rfl, ?_⟩; rotate_right; conv => whnf) | ((with_reducible show Exists _); refine Exists.intro _ (And.intro (l_mTS0 ..) (And.intro rfl ?_)); rotate_right; conv => whnf) | (intro h; conv => whnf))
  all_goals (repeat (clear hK; clear K1))
  all_goals first | rfl | skip
set_option maxRecDepth 100000 in
theorem l_heldTerm0 (op w n : Int) (nm : ByteArray) (k : Int) (h0 : 0 ≤ k) : CallsV Tryz.prog 17 [.agg [.dat (.i op), .dat (.i w), .dat (.i n), .dat (.str nm), .dat (.seq .terms [])], .dat (.i k)] (.dat (.i k)) := by
  refine CallsV.of_awp tauOk mixOk Tryz.func17 rfl rfl rfl ?_
  conv => whnf
  repeat' (first | ((with_reducible refine fun (K1 : AX → AState → Prop) hK => ?_); refine stK ⟨?_⟩) | ((with_reducible show K1 _ _); subst hK; conv => whnf) | (with_reducible exact rfl) | refine st0 ⟨?_⟩ | ((with_reducible refine SplS.mk (fun h => ?_) (fun h => ?_)) <;> first | exact ctA | (subst h; conv => whnf) | (conv => whnf)) | ((with_reducible refine SplB.mk (fun h => ?_) (fun h => ?_)) <;> first | exact ctR | (conv => whnf)) | ((with_reducible refine and_of ?_ ?_); conv => whnf) | ((with_reducible refine pcI (g := 34) ?_); refine ⟨_, l_hTS0 .., rfl, ?_⟩; rotate_right; conv => whnf) | ((with_reducible show Exists _); refine Exists.intro _ (And.intro (l_hTS0 ..) (And.intro rfl ?_)); rotate_right; conv => whnf) | (intro h; conv => whnf))
  all_goals (repeat (clear hK; clear K1))
  all_goals first | rfl | (exfalso; omega) | skip
end Vg
