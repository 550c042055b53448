/- The reference makes terms simple: small functions. Condition: the term is good. -/
import Derived.Test.YtjlffejifadkiaaGreatDoorTermXC
namespace Vg
open Go Go.Proofs
set_option maxRecDepth 100000
set_option maxHeartbeats 40000000
theorem qgf {n lo hi : Int} {A B : Prop} (hn : inP n lo hi = false) (h2 : B) : (inP n lo hi = true → A) ∧ (inP n lo hi = false → B) := ⟨fun h => (by rw [hn] at h; cases h), fun _ => h2⟩
theorem sp_iT {n lo hi : Int} {A B : Prop} (hn : inP n lo hi = true) (h1 : A) : (inP n lo hi = true → A) ∧ (inP n lo hi = false → B) := ⟨fun _ => h1, fun h => (by rw [hn] at h; cases h)⟩
theorem qge {n lo hi : Int} {A B : Prop} (hn : inP n lo hi = false) (h2 : B) : (inP n lo hi = false → B) ∧ (inP n lo hi = true → A) := ⟨fun _ => h2, fun h => (by rw [hn] at h; cases h)⟩
theorem sp_iT' {n lo hi : Int} {A B : Prop} (hn : inP n lo hi = true) (h1 : A) : (inP n lo hi = false → B) ∧ (inP n lo hi = true → A) := ⟨fun h => (by rw [hn] at h; cases h), fun _ => h1⟩
theorem nz {a b : Prop} (h0 : a) (h : ¬ (a ∧ b)) : ¬ b := fun q => h ⟨h0, q⟩
theorem yz {a b : Prop} (_h0 : a) (h : a ∧ b) : b := h.2
theorem qdr {a b : Prop} (h : ¬ a) : ¬ (a ∧ b) := fun q => h q.1
theorem qbr {a b : Prop} (h : ¬ b) : ¬ (a ∧ b) := fun q => h q.2
theorem cmp_y {a b : V.Term} (h : cmpT a b > 0) : cmpT a b = 1 := by
  rcases cmpT_r a b with q | q | q <;> omega
theorem qb5 {a b : V.Term} (h : ¬ cmpT a b > 0) : ¬ cmpT a b = 1 := by omega
theorem s_l02Const (w n : Int) : CallsV Tryz.prog 71 [.dat (.i w), .dat (.i n)] (.agg [.dat (.i 0), .dat (.i w), .dat (.i n), .dat (.str ByteArray.empty), .dat (.seq .terms [])]) := by
  refine oV Tryz.func71 ⟨?_⟩
  repeat' (first | ((with_reducible refine fun (K1 : KT) hK => ?_); refine stW ⟨?_⟩) | ((with_reducible show K1 _ _); subst hK; conv => whnf) | (with_reducible refine frG ?_) | (with_reducible exact rfl) | refine st0 ⟨?_⟩ | ((with_reducible refine SplS.mk (fun h => ?_) (fun h => ?_)) <;> first | exact ctM | (subst h; conv => whnf) | (conv => whnf)) | (intro h; conv => whnf))
  all_goals repeat clear hK K1
  all_goals first | exact ⟨fr5n (t := cT w n) rfl⟩ | exact rfl | exact True.intro | skip
theorem qar (op w n : Int) (nm : ByteArray) (ks : List V.Term) (m : Int) : CallsV Tryz.prog 74 [.agg [.dat (.i op), .dat (.i w), .dat (.i n), .dat (.str nm), .dat (.seq .terms ks)], .dat (.i m)] (.dat (.bool (decide (op = 0 ∧ n = m)))) := by
  refine oV Tryz.func74 ⟨?_⟩
  repeat' (first | ((with_reducible refine fun (K1 : KT) hK => ?_); refine stW ⟨?_⟩) | ((with_reducible show K1 _ _); subst hK; conv => whnf) | (with_reducible exact rfl) | refine st0 ⟨?_⟩ | ((with_reducible refine SplS.mk (fun h => ?_) (fun h => ?_)) <;> first | exact ctM | (subst h; conv => whnf) | (conv => whnf)) | (intro h; conv => whnf))
  all_goals repeat clear hK K1
  all_goals first | rfl | (refine db_eq ?_; rw [Bool.eq_iff_iff]; simp; done) | (refine db_eq ?_; rw [Bool.eq_iff_iff]; simp [*]; done) | (refine db_eq ?_; exact decide_eq_false omG) | (exact db_eq (by have h1 := (by with_reducible assumption : op = 0); rw [Bool.eq_iff_iff]; simp [h1])) | (exact db_eq (by rw [Bool.eq_iff_iff]; simp)) | (exact db_eq (by simp [*])) | skip
theorem qbd (op w n : Int) (nm : ByteArray) (ks : List V.Term) (hw : inP w 1 16 = true) : CallsV Tryz.prog 212 [.agg [.dat (.i op), .dat (.i w), .dat (.i n), .dat (.str nm), .dat (.seq .terms ks)]] (.dat (.bool (decide (op = 0 ∧ n = onW w)))) := by
  refine oV Tryz.func212 ⟨?_⟩
  repeat' (first | ((with_reducible refine fun (K1 : KT) hK => ?_); refine stW ⟨?_⟩) | ((with_reducible show K1 _ _); subst hK; conv => whnf) | (with_reducible exact rfl) | refine st0 ⟨?_⟩ | ((with_reducible refine SplS.mk (fun h => ?_) (fun h => ?_)) <;> first | exact ctM | (subst h; conv => whnf) | (conv => whnf)) | refine stB ⟨?_⟩ ⟨?_⟩ | (intro h; conv => whnf))
  all_goals repeat clear hK K1
  all_goals first | rfl | (refine db_eq ?_; exact decide_eq_false omG) | ((with_reducible show (_ : Int) ≤ _); have F := wf hw; have h1 := F.lo; omega) | (have F := wf hw; have h2 := F.s2; have h3 := F.s3; refine db_eq ?_; rw [F.s, qac (n := 2 ^ w.toNat - 1) omG omG]; rw [Bool.eq_iff_iff]; simp; done) | skip
def eqC (op : Int) : Prop := op = 8 ∨ op = 9 ∨ op = 4 ∨ op = 10 ∨ op = 15 ∨ op = 16 ∨ op = 14
instance (op : Int) : Decidable (eqC op) := by unfold eqC; infer_instance
def eqT (op w : Int) (a t : V.Term) : V.Term := if op = 8 ∨ op = 9 then a else if op = 4 ∨ op = 10 ∨ op = 15 ∨ op = 16 then cT w 0 else if op = 14 then cT 1 1 else t
theorem eq_y {B : List Blk} {X : AV} {op w : Int} {a t : V.Term} (h : ∀ y, eqT op w a t = y → frzM B (qbj y) X) : frzM B (qbj (eqT op w a t)) X := h _ rfl
theorem qaw (op w n : Int) (nm : ByteArray) (ks : List V.Term) (hl : 0 < ks.length) : CallsV Tryz.prog 192 [.agg [.dat (.i op), .dat (.i w), .dat (.i n), .dat (.str nm), .dat (.seq .terms ks)]] (.tup [qbj (eqT op w (kAt ks 0) ⟨op, w, n, nm, ks⟩), .dat (.bool (decide (eqC op)))]) := by
  refine oV Tryz.func192 ⟨?_⟩
  repeat' (first | ((with_reducible refine fun (K1 : KT) hK => ?_); refine stW ⟨?_⟩) | ((with_reducible show K1 _ _); subst hK; conv => whnf) | (with_reducible exact rfl) | refine st0 ⟨?_⟩ | ((with_reducible refine SplS.mk (fun h => ?_) (fun h => ?_)) <;> first | exact ctM | (subst h; conv => whnf) | (conv => whnf)) | refine stB ⟨?_⟩ ⟨?_⟩ | ((with_reducible first | refine pcI (g := 71) ?_ | show Exists _); refine ⟨_, s_l02Const .., rfl, ?_⟩; rotate_right; conv => whnf) | (intro h; conv => whnf))
  all_goals repeat clear hK K1
  all_goals first | exact True.intro | ((with_reducible show (_ : Int) ≤ _); omega) | ((with_reducible show (_ : Int) < _); omega) | (refine eq_y fun y hz => ?_; unfold eqT at hz; (repeat (first | rw [if_pos omG] at hz | rw [if_neg omG] at hz)); subst hz; first | exact fr5M (V.Term.eta _).symm | exact fr5M rfl | exact fr5Mn rfl) | exact congrArg Dat.bool (decide_eq_true (by unfold eqC; omega)) | exact congrArg Dat.bool (decide_eq_false (by unfold eqC; omega)) | skip
structure IHM (m : Nat) : Prop where
  call : ∀ (op w n : Int) (nm : ByteArray) (ks : List V.Term), okT ⟨op, w, n, nm, ks⟩ = true → qbe ⟨op, w, n, nm, ks⟩ < m →
    CallsV Tryz.prog 145 [.agg [.dat (.i op), .dat (.i w), .dat (.i n), .dat (.str nm), .dat (.seq .terms ks)]] (qbj (mkT ⟨op, w, n, nm, ks⟩))
theorem ih_mk {m : Nat} (ih : IHM m) {op w n : Int} {nm : ByteArray} {ks : List V.Term} (hk : okT ⟨op, w, n, nm, ks⟩ = true) (hm : qbe ⟨op, w, n, nm, ks⟩ < m) :
    CallsV Tryz.prog 145 [.agg [.dat (.i op), .dat (.i w), .dat (.i n), .dat (.str nm), .dat (.seq .terms ks)]] (qbj (mkT ⟨op, w, n, nm, ks⟩)) := ih.call op w n nm ks hk hm
theorem s_l02Bit (w' : Int) (op w n : Int) (nm : ByteArray) (ks : List V.Term) (n' : Int) (m : Nat) (ih : IHM m) (hk : okT (oT 19 w' n' [⟨op, w, n, nm, ks⟩]) = true) (hm : qbe (oT 19 w' n' [⟨op, w, n, nm, ks⟩]) < m) : CallsV Tryz.prog 193 [.dat (.i w'), .agg [.dat (.i op), .dat (.i w), .dat (.i n), .dat (.str nm), .dat (.seq .terms ks)], .dat (.i n')] (qbj (mkT (oT 19 w' n' [⟨op, w, n, nm, ks⟩]))) := by
  refine oV Tryz.func193 ⟨?_⟩
  repeat' (first | ((with_reducible refine fun (K1 : KT) hK => ?_); refine stW ⟨?_⟩) | ((with_reducible show K1 _ _); subst hK; conv => whnf) | (with_reducible refine frG ?_) | (with_reducible exact rfl) | refine st0 ⟨?_⟩ | ((with_reducible refine SplS.mk (fun h => ?_) (fun h => ?_)) <;> first | exact ctM | (subst h; conv => whnf) | (conv => whnf)) | ((with_reducible show Exists _); refine Exists.intro _ (And.intro (ih_mk (ih := by assumption) (hk := ?_) (hm := ?_) ..) (And.intro rfl ?_)); rotate_right; conv => whnf) | ((with_reducible refine zcI (g := 145) ?_); (conv => whnf); refine ⟨_, _, ih_mk (ih := asmR) (hk := ?_) (hm := ?_) .., rfl, fun res B hRB => ?_⟩; rotate_right; obtain ⟨rfl, rfl⟩ := hRB; conv => whnf) | (intro h; conv => whnf))
  all_goals repeat clear hK K1
  all_goals first | exact ⟨fr5 (t := mkT (oT 19 w' n' [⟨op, w, n, nm, ks⟩])) (V.Term.eta _).symm⟩ | exact True.intro | (with_reducible assumption) | exact hk | exact hm | exact rfl | skip
theorem qcr {k : Int} {t : V.Term} (ht : okT t = true) (ho : t.op = k) (h3 : 3 ≤ k ∧ k ≤ 16) (hs : ¬ (qam t.op ∧ cmpT (k0 t) (k1 t) = 1)) (h0 : (k0 t).op = 0) (c : (k = 10 ∧ (k0 t).n = onW (k0 t).w ∧ ¬ (k0 t).n = 0) ∨ (k = 14 ∧ (k0 t).w = 1 ∧ (k0 t).n = 0)) :
    okT (oT 1 t.w 0 [k1 t]) = true ∧ qbe (oT 1 t.w 0 [k1 t]) < qbe t := by
  subst ho
  exact first_ok ht h3 hs h0 omG omG
theorem qak {t : V.Term} (ht : okT t = true) (h0 : t.op = 0) (hw : t.w = 1) (h1 : ¬ t.n = 1) : t.n = 0 := by
  have := qas (qeg ht h0)
  rw [hw] at this
  have h2 := this.2.2
  have h3 := this.2.1
  have e : (2 : Int) ^ (Int.toNat 1) = 2 := rfl
  rw [e] at h2
  omega
theorem cst_is {t : V.Term} {w n : Int} (ht : okT t = true) (h0 : t.op = 0) (hw : t.w = w) (hn : t.n = n) : cT w n = ⟨t.op, t.w, t.n, t.name, t.kids⟩ := by
  have := const_eq ht h0
  rw [V.Term.eta, this, hw, hn]
structure NS (t : V.Term) : Prop where
  h : ¬ (qam t.op ∧ cmpT (k0 t) (k1 t) = 1)
theorem qgv {k : Int} {t : V.Term} (ht : okT t = true) (ho : t.op = k) (h3 : 3 ≤ k ∧ k ≤ 16) (hc : qb2 t.kids = false) (hs : ¬ (qam t.op ∧ cmpT (k0 t) (k1 t) = 1)) (h0 : (k0 t).op = 0) (h : (qae k t.w (k0 t) (k1 t)).isSome = true) : mkT t = (qae k t.w (k0 t) (k1 t)).getD t := by
  have e := qf0 ht ho h3 hc hs h0 h
  rw [Option.isSome_iff_exists] at h
  obtain ⟨a, ha⟩ := h
  rw [ha] at e ⊢
  exact e
section
variable {k : Int} {t : V.Term} {ks : List V.Term}
theorem okN (ht : okT t = true) (ho : t.op = k) (h3 : 3 ≤ k ∧ k ≤ 16) (h : okT (oT k t.w 0 ks) = true) : okT ⟨k, t.w, t.n, t.name, ks⟩ = true := by rw [okT_n0 ht omG omG, qm4 ht omG]; exact h
theorem meN (ht : okT t = true) (ho : t.op = k) (h3 : 3 ≤ k ∧ k ≤ 16) (h : qbe (oT k t.w 0 ks) < qbe t) : qbe ⟨k, t.w, t.n, t.name, ks⟩ < qbe t := by rw [okT_n0 ht omG omG, qm4 ht omG]; exact h
theorem mkN (ht : okT t = true) (ho : t.op = k) (h3 : 3 ≤ k ∧ k ≤ 16) : mkT (oT k t.w 0 ks) = mkT ⟨k, t.w, t.n, t.name, ks⟩ := by rw [okT_n0 ht omG omG, qm4 ht omG]
end
theorem fu_y {B : List Blk} {X : AV} {op w : Int} {a b t : V.Term} (h : ∀ y, qae op w a b = y → frzM B (qbj (y.getD t)) X) : frzM B (qbj ((qae op w a b).getD t)) X := h _ rfl
theorem ft_3 (w : Int) (a b : V.Term) : qae 3 w a b = if a.n = 0 then some b else none := by
  unfold qae
  simp
theorem eq_3 (w : Int) (a t : V.Term) : eqT 3 w a t = t := by
  unfold eqT
  simp
theorem ft_4 (w : Int) (a b : V.Term) : qae 4 w a b = none := by
  unfold qae
  simp
theorem eq_4 (w : Int) (a t : V.Term) : eqT 4 w a t = cT w 0 := by
  unfold eqT
  simp
theorem ft_5 (w : Int) (a b : V.Term) : qae 5 w a b = if a.n = 1 then some b else if a.n = 0 then some (cT w 0) else none := by
  unfold qae
  simp
theorem eq_5 (w : Int) (a t : V.Term) : eqT 5 w a t = t := by
  unfold eqT
  simp
theorem ft_6 (w : Int) (a b : V.Term) : qae 6 w a b = none := by
  unfold qae
  simp
theorem eq_6 (w : Int) (a t : V.Term) : eqT 6 w a t = t := by
  unfold eqT
  simp
theorem ft_7 (w : Int) (a b : V.Term) : qae 7 w a b = none := by
  unfold qae
  simp
theorem eq_7 (w : Int) (a t : V.Term) : eqT 7 w a t = t := by
  unfold eqT
  simp
theorem ft_8 (w : Int) (a b : V.Term) : qae 8 w a b = if a.n = onW a.w then some b else if a.n = 0 then some (cT w 0) else none := by
  unfold qae
  simp
theorem eq_8 (w : Int) (a t : V.Term) : eqT 8 w a t = a := by
  unfold eqT
  simp
theorem ft_9 (w : Int) (a b : V.Term) : qae 9 w a b = if a.n = 0 then some b else if a.n = onW a.w then some (cT w (onW a.w)) else none := by
  unfold qae
  simp
theorem eq_9 (w : Int) (a t : V.Term) : eqT 9 w a t = a := by
  unfold eqT
  simp
theorem ft_10 (w : Int) (a b : V.Term) : qae 10 w a b = if a.n = 0 then some b else if a.n = onW a.w then some (mkT (oT 1 w 0 [b])) else none := by
  unfold qae
  simp
theorem eq_10 (w : Int) (a t : V.Term) : eqT 10 w a t = cT w 0 := by
  unfold eqT
  simp
theorem ft_11 (w : Int) (a b : V.Term) : qae 11 w a b = none := by
  unfold qae
  simp
theorem eq_11 (w : Int) (a t : V.Term) : eqT 11 w a t = t := by
  unfold eqT
  simp
theorem ft_12 (w : Int) (a b : V.Term) : qae 12 w a b = none := by
  unfold qae
  simp
theorem eq_12 (w : Int) (a t : V.Term) : eqT 12 w a t = t := by
  unfold eqT
  simp
theorem ft_13 (w : Int) (a b : V.Term) : qae 13 w a b = none := by
  unfold qae
  simp
theorem eq_13 (w : Int) (a t : V.Term) : eqT 13 w a t = t := by
  unfold eqT
  simp
theorem ft_14 (w : Int) (a b : V.Term) : qae 14 w a b = if a.w = 1 ∧ a.n = 1 then some b else if a.w = 1 ∧ a.n = 0 then some (mkT (oT 1 w 0 [b])) else none := by
  unfold qae
  simp
theorem eq_14 (w : Int) (a t : V.Term) : eqT 14 w a t = cT 1 1 := by
  unfold eqT
  simp
theorem ft_15 (w : Int) (a b : V.Term) : qae 15 w a b = none := by
  unfold qae
  simp
theorem eq_15 (w : Int) (a t : V.Term) : eqT 15 w a t = cT w 0 := by
  unfold eqT
  simp
theorem ft_16 (w : Int) (a b : V.Term) : qae 16 w a b = none := by
  unfold qae
  simp
theorem eq_16 (w : Int) (a t : V.Term) : eqT 16 w a t = cT w 0 := by
  unfold eqT
  simp
theorem ft_5z (w : Int) (a b : V.Term) : qae 5 w a b = if a.n = 0 then some (cT w 0) else if a.n = 1 then some b else none := by
  rw [ft_5]
  by_cases h : a.n = 1
  · rw [if_pos h, if_neg omG, if_pos h]
  · rw [if_neg h, if_neg h]
theorem ft_8z (w : Int) (a b : V.Term) (hw : inP a.w 1 16 = true) : qae 8 w a b = if a.n = 0 then some (cT w 0) else if a.n = onW a.w then some b else none := by
  have F := (wf hw).s3
  rw [ft_8]
  by_cases h : a.n = onW a.w
  · rw [if_pos h, if_neg (by have e : onW a.w = 2 ^ a.w.toNat - 1 := rfl; omega), if_pos h]
  · rw [if_neg h, if_neg h]
end Vg
