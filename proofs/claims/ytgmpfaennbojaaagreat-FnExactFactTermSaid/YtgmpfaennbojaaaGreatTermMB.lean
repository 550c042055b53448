/- The reference makes terms simple: small functions. Condition: the term is good. -/
import Derived.Test.YtgmpfaennbojaaaGreatTermXC
namespace Vg
open Go Go.Proofs
theorem sp_iF {n lo hi : Int} {A B : Prop} (hn : inP n lo hi = false) (h2 : B) : (inP n lo hi = true → A) ∧ (inP n lo hi = false → B) := ⟨fun h => (by rw [hn] at h; cases h), fun _ => h2⟩
theorem sp_iT {n lo hi : Int} {A B : Prop} (hn : inP n lo hi = true) (h1 : A) : (inP n lo hi = true → A) ∧ (inP n lo hi = false → B) := ⟨fun _ => h1, fun h => (by rw [hn] at h; cases h)⟩
theorem sp_iF' {n lo hi : Int} {A B : Prop} (hn : inP n lo hi = false) (h2 : B) : (inP n lo hi = false → B) ∧ (inP n lo hi = true → A) := ⟨fun _ => h2, fun h => (by rw [hn] at h; cases h)⟩
theorem sp_iT' {n lo hi : Int} {A B : Prop} (hn : inP n lo hi = true) (h1 : A) : (inP n lo hi = false → B) ∧ (inP n lo hi = true → A) := ⟨fun h => (by rw [hn] at h; cases h), fun _ => h1⟩
theorem nz {a b : Prop} (h0 : a) (h : ¬ (a ∧ b)) : ¬ b := fun q => h ⟨h0, q⟩
theorem yz {a b : Prop} (_h0 : a) (h : a ∧ b) : b := h.2
theorem and_y1 {a b : Prop} (h : ¬ a) : ¬ (a ∧ b) := fun q => h q.1
theorem and_y2 {a b : Prop} (h : ¬ b) : ¬ (a ∧ b) := fun q => h q.2
theorem cmp_y {a b : V.Term} (h : cmpT a b > 0) : cmpT a b = 1 := by
  rcases cmpT_r a b with q | q | q <;> omega
theorem cmp_nn {a b : V.Term} (h : ¬ cmpT a b > 0) : ¬ cmpT a b = 1 := by omega
set_option maxRecDepth 100000 in
theorem s_l02Const (w n : Int) : CallsV Tryz.prog 22 [.dat (.i w), .dat (.i n)] (.agg [.dat (.i 0), .dat (.i w), .dat (.i n), .dat (.str ByteArray.empty), .dat (.seq .terms [])]) := by
  refine CallsV.of_awp tauOk mixOk Tryz.func22 rfl rfl rfl ?_
  conv => whnf
  repeat' (first | ((with_reducible refine fun (K1 : AX → AState → Prop) hK => ?_); refine stW ⟨?_⟩) | ((with_reducible show K1 _ _); subst hK; conv => whnf) | (with_reducible refine frG ?_) | (with_reducible exact rfl) | refine st0 ⟨?_⟩ | ((with_reducible refine SplS.mk (fun h => ?_) (fun h => ?_)) <;> first | exact ctA | (subst h; conv => whnf) | (conv => whnf)) | ((with_reducible refine SplB.mk (fun h => ?_) (fun h => ?_)) <;> first | exact ctR | (conv => whnf)) | (intro h; conv => whnf))
  all_goals (repeat (clear hK; clear K1))
  all_goals first | exact ⟨fr5n (t := cT w n) rfl⟩ | exact rfl | exact True.intro | skip
set_option maxRecDepth 100000 in
theorem s_l02Is (op w n : Int) (nm : ByteArray) (ks : List V.Term) (m : Int) : CallsV Tryz.prog 75 [.agg [.dat (.i op), .dat (.i w), .dat (.i n), .dat (.str nm), .dat (.seq .terms ks)], .dat (.i m)] (.dat (.bool (decide (op = 0 ∧ n = m)))) := by
  refine CallsV.of_awp tauOk mixOk Tryz.func75 rfl rfl rfl ?_
  conv => whnf
  repeat' (first | ((with_reducible refine fun (K1 : AX → AState → Prop) hK => ?_); refine stW ⟨?_⟩) | ((with_reducible show K1 _ _); subst hK; conv => whnf) | (with_reducible exact rfl) | refine st0 ⟨?_⟩ | ((with_reducible refine SplS.mk (fun h => ?_) (fun h => ?_)) <;> first | exact ctA | (subst h; conv => whnf) | (conv => whnf)) | ((with_reducible refine SplB.mk (fun h => ?_) (fun h => ?_)) <;> first | exact ctR | (conv => whnf)) | (intro h; conv => whnf))
  all_goals (repeat (clear hK; clear K1))
  all_goals first | rfl | (refine db_eq ?_; rw [Bool.eq_iff_iff]; simp; done) | (refine db_eq ?_; rw [Bool.eq_iff_iff]; simp [*]; done) | (refine db_eq ?_; exact decide_eq_false (by omega)) | (exact db_eq (by have h1 := (by with_reducible assumption : op = 0); rw [Bool.eq_iff_iff]; simp [h1])) | (exact db_eq (by rw [Bool.eq_iff_iff]; simp)) | (exact db_eq (by simp [*])) | skip
set_option maxRecDepth 100000 in
theorem s_l02Ones (op w n : Int) (nm : ByteArray) (ks : List V.Term) (hw : inP w 1 16 = true) : CallsV Tryz.prog 95 [.agg [.dat (.i op), .dat (.i w), .dat (.i n), .dat (.str nm), .dat (.seq .terms ks)]] (.dat (.bool (decide (op = 0 ∧ n = onW w)))) := by
  refine CallsV.of_awp tauOk mixOk Tryz.func95 rfl rfl rfl ?_
  conv => whnf
  repeat' (first | ((with_reducible refine fun (K1 : AX → AState → Prop) hK => ?_); refine stW ⟨?_⟩) | ((with_reducible show K1 _ _); subst hK; conv => whnf) | (with_reducible exact rfl) | refine st0 ⟨?_⟩ | ((with_reducible refine SplS.mk (fun h => ?_) (fun h => ?_)) <;> first | exact ctA | (subst h; conv => whnf) | (conv => whnf)) | ((with_reducible refine SplB.mk (fun h => ?_) (fun h => ?_)) <;> first | exact ctR | (conv => whnf)) | ((with_reducible refine and_of ?_ ?_); conv => whnf) | (intro h; conv => whnf))
  all_goals (repeat (clear hK; clear K1))
  all_goals first | rfl | (refine db_eq ?_; exact decide_eq_false (by omega)) | ((with_reducible show (_ : Int) ≤ _); have F := wf hw; have h1 := F.lo; omega) | (have F := wf hw; have h2 := F.s2; have h3 := F.s3; refine db_eq ?_; rw [F.s, wrap_id (n := 2 ^ w.toNat - 1) (by omega) (by omega)]; rw [Bool.eq_iff_iff]; simp; done) | skip
def eqC (op : Int) : Prop := op = 8 ∨ op = 9 ∨ op = 4 ∨ op = 10 ∨ op = 15 ∨ op = 16 ∨ op = 14
instance (op : Int) : Decidable (eqC op) := by unfold eqC; infer_instance
def eqT (op w : Int) (a t : V.Term) : V.Term := if op = 8 ∨ op = 9 then a else if op = 4 ∨ op = 10 ∨ op = 15 ∨ op = 16 then cT w 0 else if op = 14 then cT 1 1 else t
theorem eq_y {B : List Blk} {X : AV} {op w : Int} {a t : V.Term} (h : ∀ y, eqT op w a t = y → frzM B (datT y) X) : frzM B (datT (eqT op w a t)) X := h _ rfl
set_option maxRecDepth 100000 in
theorem s_l02Equal (op w n : Int) (nm : ByteArray) (ks : List V.Term) (hl : 0 < ks.length) : CallsV Tryz.prog 76 [.agg [.dat (.i op), .dat (.i w), .dat (.i n), .dat (.str nm), .dat (.seq .terms ks)]] (.tup [datT (eqT op w (kAt ks 0) ⟨op, w, n, nm, ks⟩), .dat (.bool (decide (eqC op)))]) := by
  refine CallsV.of_awp tauOk mixOk Tryz.func76 rfl rfl rfl ?_
  conv => whnf
  repeat' (first | ((with_reducible refine fun (K1 : AX → AState → Prop) hK => ?_); refine stW ⟨?_⟩) | ((with_reducible show K1 _ _); subst hK; conv => whnf) | (with_reducible exact rfl) | refine st0 ⟨?_⟩ | ((with_reducible refine SplS.mk (fun h => ?_) (fun h => ?_)) <;> first | exact ctA | (subst h; conv => whnf) | (conv => whnf)) | ((with_reducible refine SplB.mk (fun h => ?_) (fun h => ?_)) <;> first | exact ctR | (conv => whnf)) | (with_reducible first | refine bnd2 ?_ ?_ | refine bnd2' ?_ ?_ | refine bndN ?_ ?_) | ((with_reducible refine and_of ?_ ?_); conv => whnf) | ((with_reducible refine pcI (g := 22) ?_); refine ⟨_, s_l02Const .., rfl, ?_⟩; rotate_right; conv => whnf) | ((with_reducible show Exists _); refine Exists.intro _ (And.intro (s_l02Const ..) (And.intro rfl ?_)); rotate_right; conv => whnf) | (intro h; conv => whnf))
  all_goals (repeat (clear hK; clear K1))
  all_goals first | exact True.intro | ((with_reducible show (_ : Int) ≤ _); omega) | ((with_reducible show (_ : Int) < _); omega) | (refine eq_y fun y hz => ?_; unfold eqT at hz; (repeat (first | rw [if_pos (by omega)] at hz | rw [if_neg (by omega)] at hz)); subst hz; first | exact fr5M (V.Term.eta _).symm | exact fr5M rfl | exact fr5Mn rfl) | exact congrArg Dat.bool (decide_eq_true (by unfold eqC; omega)) | exact congrArg Dat.bool (decide_eq_false (by unfold eqC; omega)) | skip
structure IHM (m : Nat) : Prop where
  call : ∀ (op w n : Int) (nm : ByteArray) (ks : List V.Term), okT ⟨op, w, n, nm, ks⟩ = true → meas ⟨op, w, n, nm, ks⟩ < m →
    CallsV Tryz.prog 41 [.agg [.dat (.i op), .dat (.i w), .dat (.i n), .dat (.str nm), .dat (.seq .terms ks)]] (datT (mkT ⟨op, w, n, nm, ks⟩))
theorem ih_mk {m : Nat} (ih : IHM m) {op w n : Int} {nm : ByteArray} {ks : List V.Term} (hk : okT ⟨op, w, n, nm, ks⟩ = true) (hm : meas ⟨op, w, n, nm, ks⟩ < m) :
    CallsV Tryz.prog 41 [.agg [.dat (.i op), .dat (.i w), .dat (.i n), .dat (.str nm), .dat (.seq .terms ks)]] (datT (mkT ⟨op, w, n, nm, ks⟩)) := ih.call op w n nm ks hk hm
set_option maxRecDepth 100000 in
theorem s_l02Bit (w' : Int) (op w n : Int) (nm : ByteArray) (ks : List V.Term) (n' : Int) (m : Nat) (ih : IHM m) (hk : okT (oT 19 w' n' [⟨op, w, n, nm, ks⟩]) = true) (hm : meas (oT 19 w' n' [⟨op, w, n, nm, ks⟩]) < m) : CallsV Tryz.prog 77 [.dat (.i w'), .agg [.dat (.i op), .dat (.i w), .dat (.i n), .dat (.str nm), .dat (.seq .terms ks)], .dat (.i n')] (datT (mkT (oT 19 w' n' [⟨op, w, n, nm, ks⟩]))) := by
  refine CallsV.of_awp tauOk mixOk Tryz.func77 rfl rfl rfl ?_
  conv => whnf
  repeat' (first | ((with_reducible refine fun (K1 : AX → AState → Prop) hK => ?_); refine stW ⟨?_⟩) | ((with_reducible show K1 _ _); subst hK; conv => whnf) | (with_reducible refine frG ?_) | (with_reducible exact rfl) | refine st0 ⟨?_⟩ | ((with_reducible refine SplS.mk (fun h => ?_) (fun h => ?_)) <;> first | exact ctA | (subst h; conv => whnf) | (conv => whnf)) | ((with_reducible refine SplB.mk (fun h => ?_) (fun h => ?_)) <;> first | exact ctR | (conv => whnf)) | ((with_reducible show Exists _); refine Exists.intro _ (And.intro (ih_mk (ih := by assumption) (hk := ?_) (hm := ?_) ..) (And.intro rfl ?_)); rotate_right; conv => whnf) | ((with_reducible refine zcI (g := 41) ?_); (conv => whnf); refine ⟨_, _, ih_mk (ih := by with_reducible assumption) (hk := ?_) (hm := ?_) .., rfl, fun res B hRB => ?_⟩; rotate_right; obtain ⟨rfl, rfl⟩ := hRB; conv => whnf) | (intro h; conv => whnf))
  all_goals (repeat (clear hK; clear K1))
  all_goals first | exact ⟨fr5 (t := mkT (oT 19 w' n' [⟨op, w, n, nm, ks⟩])) (V.Term.eta _).symm⟩ | exact True.intro | (with_reducible assumption) | exact hk | exact hm | exact rfl | skip
theorem fi_ok {k : Int} {t : V.Term} (ht : okT t = true) (ho : t.op = k) (h3 : 3 ≤ k ∧ k ≤ 16) (hs : ¬ (swaps t.op ∧ cmpT (k0 t) (k1 t) = 1)) (h0 : (k0 t).op = 0) (c : (k = 10 ∧ (k0 t).n = onW (k0 t).w ∧ ¬ (k0 t).n = 0) ∨ (k = 14 ∧ (k0 t).w = 1 ∧ (k0 t).n = 0)) :
    okT (oT 1 t.w 0 [k1 t]) = true ∧ meas (oT 1 t.w 0 [k1 t]) < meas t := by
  subst ho
  exact first_ok ht h3 hs h0 (by omega) (by omega)
theorem bit_w {t : V.Term} (ht : okT t = true) (h0 : t.op = 0) (hw : t.w = 1) (h1 : ¬ t.n = 1) : t.n = 0 := by
  have := word_lo (const_w ht h0)
  rw [hw] at this
  have h2 := this.2.2
  have h3 := this.2.1
  have e : (2 : Int) ^ (Int.toNat 1) = 2 := rfl
  rw [e] at h2
  omega
theorem cst_is {t : V.Term} {w n : Int} (ht : okT t = true) (h0 : t.op = 0) (hw : t.w = w) (hn : t.n = n) : cT w n = ⟨t.op, t.w, t.n, t.name, t.kids⟩ := by
  have := const_eq ht h0
  rw [V.Term.eta, this, hw, hn]
structure NS (t : V.Term) : Prop where
  h : ¬ (swaps t.op ∧ cmpT (k0 t) (k1 t) = 1)
theorem fj_of {k : Int} {t : V.Term} (ht : okT t = true) (ho : t.op = k) (h3 : 3 ≤ k ∧ k ≤ 16) (hc : allC t.kids = false) (hs : ¬ (swaps t.op ∧ cmpT (k0 t) (k1 t) = 1)) (h0 : (k0 t).op = 0) (h : (firstT k t.w (k0 t) (k1 t)).isSome = true) : mkT t = (firstT k t.w (k0 t) (k1 t)).getD t := by
  have e := fi_of ht ho h3 hc hs h0 h
  rw [Option.isSome_iff_exists] at h
  obtain ⟨a, ha⟩ := h
  rw [ha] at e ⊢
  exact e
section
variable {k : Int} {t : V.Term} {ks : List V.Term}
theorem okN (ht : okT t = true) (ho : t.op = k) (h3 : 3 ≤ k ∧ k ≤ 16) (h : okT (oT k t.w 0 ks) = true) : okT ⟨k, t.w, t.n, t.name, ks⟩ = true := by rw [okT_n0 ht (by omega) (by omega), okT_nm ht (by omega)]; exact h
theorem meN (ht : okT t = true) (ho : t.op = k) (h3 : 3 ≤ k ∧ k ≤ 16) (h : meas (oT k t.w 0 ks) < meas t) : meas ⟨k, t.w, t.n, t.name, ks⟩ < meas t := by rw [okT_n0 ht (by omega) (by omega), okT_nm ht (by omega)]; exact h
theorem mkN (ht : okT t = true) (ho : t.op = k) (h3 : 3 ≤ k ∧ k ≤ 16) : mkT (oT k t.w 0 ks) = mkT ⟨k, t.w, t.n, t.name, ks⟩ := by rw [okT_n0 ht (by omega) (by omega), okT_nm ht (by omega)]
end
theorem fu_y {B : List Blk} {X : AV} {op w : Int} {a b t : V.Term} (h : ∀ y, firstT op w a b = y → frzM B (datT (y.getD t)) X) : frzM B (datT ((firstT op w a b).getD t)) X := h _ rfl
theorem ft_3 (w : Int) (a b : V.Term) : firstT 3 w a b = if a.n = 0 then some b else none := by
  unfold firstT
  simp
theorem eq_3 (w : Int) (a t : V.Term) : eqT 3 w a t = t := by
  unfold eqT
  simp
theorem ft_4 (w : Int) (a b : V.Term) : firstT 4 w a b = none := by
  unfold firstT
  simp
theorem eq_4 (w : Int) (a t : V.Term) : eqT 4 w a t = cT w 0 := by
  unfold eqT
  simp
theorem ft_5 (w : Int) (a b : V.Term) : firstT 5 w a b = if a.n = 1 then some b else if a.n = 0 then some (cT w 0) else none := by
  unfold firstT
  simp
theorem eq_5 (w : Int) (a t : V.Term) : eqT 5 w a t = t := by
  unfold eqT
  simp
theorem ft_6 (w : Int) (a b : V.Term) : firstT 6 w a b = none := by
  unfold firstT
  simp
theorem eq_6 (w : Int) (a t : V.Term) : eqT 6 w a t = t := by
  unfold eqT
  simp
theorem ft_7 (w : Int) (a b : V.Term) : firstT 7 w a b = none := by
  unfold firstT
  simp
theorem eq_7 (w : Int) (a t : V.Term) : eqT 7 w a t = t := by
  unfold eqT
  simp
theorem ft_8 (w : Int) (a b : V.Term) : firstT 8 w a b = if a.n = onW a.w then some b else if a.n = 0 then some (cT w 0) else none := by
  unfold firstT
  simp
theorem eq_8 (w : Int) (a t : V.Term) : eqT 8 w a t = a := by
  unfold eqT
  simp
theorem ft_9 (w : Int) (a b : V.Term) : firstT 9 w a b = if a.n = 0 then some b else if a.n = onW a.w then some (cT w (onW a.w)) else none := by
  unfold firstT
  simp
theorem eq_9 (w : Int) (a t : V.Term) : eqT 9 w a t = a := by
  unfold eqT
  simp
theorem ft_10 (w : Int) (a b : V.Term) : firstT 10 w a b = if a.n = 0 then some b else if a.n = onW a.w then some (mkT (oT 1 w 0 [b])) else none := by
  unfold firstT
  simp
theorem eq_10 (w : Int) (a t : V.Term) : eqT 10 w a t = cT w 0 := by
  unfold eqT
  simp
theorem ft_11 (w : Int) (a b : V.Term) : firstT 11 w a b = none := by
  unfold firstT
  simp
theorem eq_11 (w : Int) (a t : V.Term) : eqT 11 w a t = t := by
  unfold eqT
  simp
theorem ft_12 (w : Int) (a b : V.Term) : firstT 12 w a b = none := by
  unfold firstT
  simp
theorem eq_12 (w : Int) (a t : V.Term) : eqT 12 w a t = t := by
  unfold eqT
  simp
theorem ft_13 (w : Int) (a b : V.Term) : firstT 13 w a b = none := by
  unfold firstT
  simp
theorem eq_13 (w : Int) (a t : V.Term) : eqT 13 w a t = t := by
  unfold eqT
  simp
theorem ft_14 (w : Int) (a b : V.Term) : firstT 14 w a b = if a.w = 1 ∧ a.n = 1 then some b else if a.w = 1 ∧ a.n = 0 then some (mkT (oT 1 w 0 [b])) else none := by
  unfold firstT
  simp
theorem eq_14 (w : Int) (a t : V.Term) : eqT 14 w a t = cT 1 1 := by
  unfold eqT
  simp
theorem ft_15 (w : Int) (a b : V.Term) : firstT 15 w a b = none := by
  unfold firstT
  simp
theorem eq_15 (w : Int) (a t : V.Term) : eqT 15 w a t = cT w 0 := by
  unfold eqT
  simp
theorem ft_16 (w : Int) (a b : V.Term) : firstT 16 w a b = none := by
  unfold firstT
  simp
theorem eq_16 (w : Int) (a t : V.Term) : eqT 16 w a t = cT w 0 := by
  unfold eqT
  simp
theorem ft_5z (w : Int) (a b : V.Term) : firstT 5 w a b = if a.n = 0 then some (cT w 0) else if a.n = 1 then some b else none := by
  rw [ft_5]
  by_cases h : a.n = 1
  · rw [if_pos h, if_neg (by omega), if_pos h]
  · rw [if_neg h, if_neg h]
theorem ft_8z (w : Int) (a b : V.Term) (hw : inP a.w 1 16 = true) : firstT 8 w a b = if a.n = 0 then some (cT w 0) else if a.n = onW a.w then some b else none := by
  have F := (wf hw).s3
  rw [ft_8]
  by_cases h : a.n = onW a.w
  · rw [if_pos h, if_neg (by have e : onW a.w = 2 ^ a.w.toNat - 1 := rfl; omega), if_pos h]
  · rw [if_neg h, if_neg h]
end Vg
