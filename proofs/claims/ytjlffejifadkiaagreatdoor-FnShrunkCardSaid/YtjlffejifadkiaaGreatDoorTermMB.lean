/- The reference makes terms simple: small functions. Condition: the term is good. -/
import Derived.Test.YtjlffejifadkiaaGreatDoorTermXC
namespace Vg
open Go Go.Proofs
set_option maxRecDepth 100000
set_option maxHeartbeats 40000000
theorem kB {n lo hi : Int} {A B : Prop} (hn : inP n lo hi = false) (h2 : B) : (inP n lo hi = true → A) ∧ (inP n lo hi = false → B) := ⟨fun h => (by rw [hn] at h; cases h), fun _ => h2⟩
theorem aI {n lo hi : Int} {A B : Prop} (hn : inP n lo hi = true) (h1 : A) : (inP n lo hi = true → A) ∧ (inP n lo hi = false → B) := ⟨fun _ => h1, fun h => (by rw [hn] at h; cases h)⟩
theorem nE {n lo hi : Int} {A B : Prop} (hn : inP n lo hi = false) (h2 : B) : (inP n lo hi = false → B) ∧ (inP n lo hi = true → A) := ⟨fun _ => h2, fun h => (by rw [hn] at h; cases h)⟩
theorem rP {n lo hi : Int} {A B : Prop} (hn : inP n lo hi = true) (h1 : A) : (inP n lo hi = false → B) ∧ (inP n lo hi = true → A) := ⟨fun h => (by rw [hn] at h; cases h), fun _ => h1⟩
theorem nz {a b : Prop} (h0 : a) (h : ¬ (a ∧ b)) : ¬ b := fun q => h ⟨h0, q⟩
theorem yz {a b : Prop} (_h0 : a) (h : a ∧ b) : b := h.2
theorem bC {a b : Prop} (h : ¬ a) : ¬ (a ∧ b) := fun q => h q.1
theorem t7 {a b : Prop} (h : ¬ b) : ¬ (a ∧ b) := fun q => h q.2
theorem gJ {a b : V.Term} (h : cmpT a b > 0) : cmpT a b = 1 := by
  rcases qcw a b with q | q | q <;> omega
theorem e8 {a b : V.Term} (h : ¬ cmpT a b > 0) : ¬ cmpT a b = 1 := by omega
theorem s_l02Const (w n : Int) : CallsV Tryz.prog 71 [.dat (.i w), .dat (.i n)] (.agg [.dat (.i 0), .dat (.i w), .dat (.i n), .dat (.str ByteArray.empty), .dat (.seq .terms [])]) := by
  refine oV Tryz.func71 ⟨?_⟩
  repeat' (first | ((with_reducible refine fun (K1 : KT) hK => ?_); refine z1 ⟨?_⟩) | ((with_reducible show K1 _ _); subst hK; conv => whnf) | (with_reducible refine j5 ?_) | (with_reducible exact rfl) | refine st0 ⟨?_⟩ | ((with_reducible refine SplS.mk (fun h => ?_) (fun h => ?_)) <;> first | exact r0 | (subst h; conv => whnf) | (conv => whnf)) | (intro h; conv => whnf))
  all_goals repeat clear hK K1
  all_goals first | exact ⟨vE (t := cT w n) rfl⟩ | exact rfl | exact True.intro | skip
theorem x5 (op w n : Int) (nm : ByteArray) (ks : List V.Term) (m : Int) : CallsV Tryz.prog 74 [.agg [.dat (.i op), .dat (.i w), .dat (.i n), .dat (.str nm), .dat (.seq .terms ks)], .dat (.i m)] (.dat (.bool (decide (op = 0 ∧ n = m)))) := by
  refine oV Tryz.func74 ⟨?_⟩
  repeat' (first | ((with_reducible refine fun (K1 : KT) hK => ?_); refine z1 ⟨?_⟩) | ((with_reducible show K1 _ _); subst hK; conv => whnf) | (with_reducible exact rfl) | refine st0 ⟨?_⟩ | ((with_reducible refine SplS.mk (fun h => ?_) (fun h => ?_)) <;> first | exact r0 | (subst h; conv => whnf) | (conv => whnf)) | (intro h; conv => whnf))
  all_goals repeat clear hK K1
  all_goals first | rfl | (refine db_eq ?_; rw [Bool.eq_iff_iff]; simp; done) | (refine db_eq ?_; rw [Bool.eq_iff_iff]; simp [*]; done) | (refine db_eq ?_; exact decide_eq_false omG) | (exact db_eq (by have h1 := (by with_reducible assumption : op = 0); rw [Bool.eq_iff_iff]; simp [h1])) | (exact db_eq (by rw [Bool.eq_iff_iff]; simp)) | (exact db_eq (by simp [*])) | skip
theorem mA (op w n : Int) (nm : ByteArray) (ks : List V.Term) (hw : inP w 1 16 = true) : CallsV Tryz.prog 212 [.agg [.dat (.i op), .dat (.i w), .dat (.i n), .dat (.str nm), .dat (.seq .terms ks)]] (.dat (.bool (decide (op = 0 ∧ n = onW w)))) := by
  refine oV Tryz.func212 ⟨?_⟩
  repeat' (first | ((with_reducible refine fun (K1 : KT) hK => ?_); refine z1 ⟨?_⟩) | ((with_reducible show K1 _ _); subst hK; conv => whnf) | (with_reducible exact rfl) | refine st0 ⟨?_⟩ | ((with_reducible refine SplS.mk (fun h => ?_) (fun h => ?_)) <;> first | exact r0 | (subst h; conv => whnf) | (conv => whnf)) | refine f1 ⟨?_⟩ ⟨?_⟩ | (intro h; conv => whnf))
  all_goals repeat clear hK K1
  all_goals first | rfl | (refine db_eq ?_; exact decide_eq_false omG) | ((with_reducible show (_ : Int) ≤ _); have F := wf hw; have h1 := F.lo; omega) | (have F := wf hw; have h2 := F.s2; have h3 := F.s3; refine db_eq ?_; rw [F.s, wrap_id (n := 2 ^ w.toNat - 1) omG omG]; rw [Bool.eq_iff_iff]; simp; done) | skip
def eqC (op : Int) : Prop := op = 8 ∨ op = 9 ∨ op = 4 ∨ op = 10 ∨ op = 15 ∨ op = 16 ∨ op = 14
instance (op : Int) : Decidable (eqC op) := by unfold eqC; infer_instance
def s6 (op w : Int) (a t : V.Term) : V.Term := if op = 8 ∨ op = 9 then a else if op = 4 ∨ op = 10 ∨ op = 15 ∨ op = 16 then cT w 0 else if op = 14 then cT 1 1 else t
theorem eq_y {B : List Blk} {X : AV} {op w : Int} {a t : V.Term} (h : ∀ y, s6 op w a t = y → frzM B (b4 y) X) : frzM B (b4 (s6 op w a t)) X := h _ rfl
theorem o9 (op w n : Int) (nm : ByteArray) (ks : List V.Term) (hl : 0 < ks.length) : CallsV Tryz.prog 192 [.agg [.dat (.i op), .dat (.i w), .dat (.i n), .dat (.str nm), .dat (.seq .terms ks)]] (.tup [b4 (s6 op w (kAt ks 0) ⟨op, w, n, nm, ks⟩), .dat (.bool (decide (eqC op)))]) := by
  refine oV Tryz.func192 ⟨?_⟩
  repeat' (first | ((with_reducible refine fun (K1 : KT) hK => ?_); refine z1 ⟨?_⟩) | ((with_reducible show K1 _ _); subst hK; conv => whnf) | (with_reducible exact rfl) | refine st0 ⟨?_⟩ | ((with_reducible refine SplS.mk (fun h => ?_) (fun h => ?_)) <;> first | exact r0 | (subst h; conv => whnf) | (conv => whnf)) | refine f1 ⟨?_⟩ ⟨?_⟩ | ((with_reducible first | refine n0 (g := 71) ?_ | show Exists _); refine ⟨_, s_l02Const .., rfl, ?_⟩; rotate_right; conv => whnf) | (intro h; conv => whnf))
  all_goals repeat clear hK K1
  all_goals first | exact True.intro | ((with_reducible show (_ : Int) ≤ _); omega) | ((with_reducible show (_ : Int) < _); omega) | (refine eq_y fun y hz => ?_; unfold s6 at hz; (repeat (first | rw [if_pos omG] at hz | rw [if_neg omG] at hz)); subst hz; first | exact fr5M (V.Term.eta _).symm | exact fr5M rfl | exact fr5Mn rfl) | exact congrArg Dat.bool (decide_eq_true (by unfold eqC; omega)) | exact congrArg Dat.bool (decide_eq_false (by unfold eqC; omega)) | skip
structure IHM (m : Nat) : Prop where
  call : ∀ (op w n : Int) (nm : ByteArray) (ks : List V.Term), okT ⟨op, w, n, nm, ks⟩ = true → f2 ⟨op, w, n, nm, ks⟩ < m →
    CallsV Tryz.prog 145 [.agg [.dat (.i op), .dat (.i w), .dat (.i n), .dat (.str nm), .dat (.seq .terms ks)]] (b4 (u2 ⟨op, w, n, nm, ks⟩))
theorem ih_mk {m : Nat} (ih : IHM m) {op w n : Int} {nm : ByteArray} {ks : List V.Term} (hk : okT ⟨op, w, n, nm, ks⟩ = true) (hm : f2 ⟨op, w, n, nm, ks⟩ < m) :
    CallsV Tryz.prog 145 [.agg [.dat (.i op), .dat (.i w), .dat (.i n), .dat (.str nm), .dat (.seq .terms ks)]] (b4 (u2 ⟨op, w, n, nm, ks⟩)) := ih.call op w n nm ks hk hm
theorem s_l02Bit (w' : Int) (op w n : Int) (nm : ByteArray) (ks : List V.Term) (n' : Int) (m : Nat) (ih : IHM m) (hk : okT (oT 19 w' n' [⟨op, w, n, nm, ks⟩]) = true) (hm : f2 (oT 19 w' n' [⟨op, w, n, nm, ks⟩]) < m) : CallsV Tryz.prog 193 [.dat (.i w'), .agg [.dat (.i op), .dat (.i w), .dat (.i n), .dat (.str nm), .dat (.seq .terms ks)], .dat (.i n')] (b4 (u2 (oT 19 w' n' [⟨op, w, n, nm, ks⟩]))) := by
  refine oV Tryz.func193 ⟨?_⟩
  repeat' (first | ((with_reducible refine fun (K1 : KT) hK => ?_); refine z1 ⟨?_⟩) | ((with_reducible show K1 _ _); subst hK; conv => whnf) | (with_reducible refine j5 ?_) | (with_reducible exact rfl) | refine st0 ⟨?_⟩ | ((with_reducible refine SplS.mk (fun h => ?_) (fun h => ?_)) <;> first | exact r0 | (subst h; conv => whnf) | (conv => whnf)) | ((with_reducible show Exists _); refine Exists.intro _ (And.intro (ih_mk (ih := by assumption) (hk := ?_) (hm := ?_) ..) (And.intro rfl ?_)); rotate_right; conv => whnf) | ((with_reducible refine t0 (g := 145) ?_); (conv => whnf); refine ⟨_, _, ih_mk (ih := asmR) (hk := ?_) (hm := ?_) .., rfl, zV ?_⟩; rotate_right; conv => whnf) | (intro h; conv => whnf))
  all_goals repeat clear hK K1
  all_goals first | exact ⟨u0 (t := u2 (oT 19 w' n' [⟨op, w, n, nm, ks⟩])) (V.Term.eta _).symm⟩ | exact True.intro | (with_reducible assumption) | exact hk | exact hm | exact rfl | skip
theorem p7 {k : Int} {t : V.Term} (ht : okT t = true) (ho : t.op = k) (h3 : 3 ≤ k ∧ k ≤ 16) (hs : ¬ (d4 t.op ∧ cmpT (k0 t) (k1 t) = 1)) (h0 : (k0 t).op = 0) (c : (k = 10 ∧ (k0 t).n = onW (k0 t).w ∧ ¬ (k0 t).n = 0) ∨ (k = 14 ∧ (k0 t).w = 1 ∧ (k0 t).n = 0)) :
    okT (oT 1 t.w 0 [k1 t]) = true ∧ f2 (oT 1 t.w 0 [k1 t]) < f2 t := by
  subst ho
  exact qbz ht h3 hs h0 omG omG
theorem j3 {t : V.Term} (ht : okT t = true) (h0 : t.op = 0) (hw : t.w = 1) (h1 : ¬ t.n = 1) : t.n = 0 := by
  have := k5 (xE ht h0)
  rw [hw] at this
  have h2 := this.2.2
  have h3 := this.2.1
  have e : (2 : Int) ^ (Int.toNat 1) = 2 := rfl
  rw [e] at h2
  omega
theorem cst_is {t : V.Term} {w n : Int} (ht : okT t = true) (h0 : t.op = 0) (hw : t.w = w) (hn : t.n = n) : cT w n = ⟨t.op, t.w, t.n, t.name, t.kids⟩ := by
  have := qii ht h0
  rw [V.Term.eta, this, hw, hn]
structure NS (t : V.Term) : Prop where
  h : ¬ (d4 t.op ∧ cmpT (k0 t) (k1 t) = 1)
theorem xB {k : Int} {t : V.Term} (ht : okT t = true) (ho : t.op = k) (h3 : 3 ≤ k ∧ k ≤ 16) (hc : j4 t.kids = false) (hs : ¬ (d4 t.op ∧ cmpT (k0 t) (k1 t) = 1)) (h0 : (k0 t).op = 0) (h : (r3 k t.w (k0 t) (k1 t)).isSome = true) : u2 t = (r3 k t.w (k0 t) (k1 t)).getD t := by
  have e := eB ht ho h3 hc hs h0 h
  rw [Option.isSome_iff_exists] at h
  obtain ⟨a, ha⟩ := h
  rw [ha] at e ⊢
  exact e
section
variable {k : Int} {t : V.Term} {ks : List V.Term}
theorem okN (ht : okT t = true) (ho : t.op = k) (h3 : 3 ≤ k ∧ k ≤ 16) (h : okT (oT k t.w 0 ks) = true) : okT ⟨k, t.w, t.n, t.name, ks⟩ = true := by rw [xM ht omG omG, bK ht omG]; exact h
theorem meN (ht : okT t = true) (ho : t.op = k) (h3 : 3 ≤ k ∧ k ≤ 16) (h : f2 (oT k t.w 0 ks) < f2 t) : f2 ⟨k, t.w, t.n, t.name, ks⟩ < f2 t := by rw [xM ht omG omG, bK ht omG]; exact h
theorem pB (ht : okT t = true) (ho : t.op = k) (h3 : 3 ≤ k ∧ k ≤ 16) : u2 (oT k t.w 0 ks) = u2 ⟨k, t.w, t.n, t.name, ks⟩ := by rw [xM ht omG omG, bK ht omG]
end
theorem vB {B : List Blk} {X : AV} {op w : Int} {a b t : V.Term} (h : ∀ y, r3 op w a b = y → frzM B (b4 (y.getD t)) X) : frzM B (b4 ((r3 op w a b).getD t)) X := h _ rfl
theorem ft_3 (w : Int) (a b : V.Term) : r3 3 w a b = if a.n = 0 then some b else none := by
  unfold r3
  simp
theorem eq_3 (w : Int) (a t : V.Term) : s6 3 w a t = t := by
  unfold s6
  simp
theorem ft_4 (w : Int) (a b : V.Term) : r3 4 w a b = none := by
  unfold r3
  simp
theorem eq_4 (w : Int) (a t : V.Term) : s6 4 w a t = cT w 0 := by
  unfold s6
  simp
theorem ft_5 (w : Int) (a b : V.Term) : r3 5 w a b = if a.n = 1 then some b else if a.n = 0 then some (cT w 0) else none := by
  unfold r3
  simp
theorem eq_5 (w : Int) (a t : V.Term) : s6 5 w a t = t := by
  unfold s6
  simp
theorem ft_6 (w : Int) (a b : V.Term) : r3 6 w a b = none := by
  unfold r3
  simp
theorem eq_6 (w : Int) (a t : V.Term) : s6 6 w a t = t := by
  unfold s6
  simp
theorem ft_7 (w : Int) (a b : V.Term) : r3 7 w a b = none := by
  unfold r3
  simp
theorem eq_7 (w : Int) (a t : V.Term) : s6 7 w a t = t := by
  unfold s6
  simp
theorem ft_8 (w : Int) (a b : V.Term) : r3 8 w a b = if a.n = onW a.w then some b else if a.n = 0 then some (cT w 0) else none := by
  unfold r3
  simp
theorem eq_8 (w : Int) (a t : V.Term) : s6 8 w a t = a := by
  unfold s6
  simp
theorem ft_9 (w : Int) (a b : V.Term) : r3 9 w a b = if a.n = 0 then some b else if a.n = onW a.w then some (cT w (onW a.w)) else none := by
  unfold r3
  simp
theorem eq_9 (w : Int) (a t : V.Term) : s6 9 w a t = a := by
  unfold s6
  simp
theorem ft_10 (w : Int) (a b : V.Term) : r3 10 w a b = if a.n = 0 then some b else if a.n = onW a.w then some (u2 (oT 1 w 0 [b])) else none := by
  unfold r3
  simp
theorem eq_10 (w : Int) (a t : V.Term) : s6 10 w a t = cT w 0 := by
  unfold s6
  simp
theorem ft_11 (w : Int) (a b : V.Term) : r3 11 w a b = none := by
  unfold r3
  simp
theorem eq_11 (w : Int) (a t : V.Term) : s6 11 w a t = t := by
  unfold s6
  simp
theorem ft_12 (w : Int) (a b : V.Term) : r3 12 w a b = none := by
  unfold r3
  simp
theorem eq_12 (w : Int) (a t : V.Term) : s6 12 w a t = t := by
  unfold s6
  simp
theorem ft_13 (w : Int) (a b : V.Term) : r3 13 w a b = none := by
  unfold r3
  simp
theorem eq_13 (w : Int) (a t : V.Term) : s6 13 w a t = t := by
  unfold s6
  simp
theorem ft_14 (w : Int) (a b : V.Term) : r3 14 w a b = if a.w = 1 ∧ a.n = 1 then some b else if a.w = 1 ∧ a.n = 0 then some (u2 (oT 1 w 0 [b])) else none := by
  unfold r3
  simp
theorem eq_14 (w : Int) (a t : V.Term) : s6 14 w a t = cT 1 1 := by
  unfold s6
  simp
theorem ft_15 (w : Int) (a b : V.Term) : r3 15 w a b = none := by
  unfold r3
  simp
theorem eq_15 (w : Int) (a t : V.Term) : s6 15 w a t = cT w 0 := by
  unfold s6
  simp
theorem ft_16 (w : Int) (a b : V.Term) : r3 16 w a b = none := by
  unfold r3
  simp
theorem eq_16 (w : Int) (a t : V.Term) : s6 16 w a t = cT w 0 := by
  unfold s6
  simp
theorem ft_5z (w : Int) (a b : V.Term) : r3 5 w a b = if a.n = 0 then some (cT w 0) else if a.n = 1 then some b else none := by
  rw [ft_5]
  by_cases h : a.n = 1
  · rw [if_pos h, if_neg omG, if_pos h]
  · rw [if_neg h, if_neg h]
theorem ft_8z (w : Int) (a b : V.Term) (hw : inP a.w 1 16 = true) : r3 8 w a b = if a.n = 0 then some (cT w 0) else if a.n = onW a.w then some b else none := by
  have F := (wf hw).s3
  rw [ft_8]
  by_cases h : a.n = onW a.w
  · rw [if_pos h, if_neg (by have e : onW a.w = 2 ^ a.w.toNat - 1 := rfl; omega), if_pos h]
  · rw [if_neg h, if_neg h]
end Vg
