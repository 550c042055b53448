/- Walks and laws that the proof leans on. No condition. -/
import Derived.Test.YtndmanmhalpjgaaGreatDoorTermRB
import Derived.Test.YtndmanmhalpjgaaGreatDoorRg
namespace Vg
open Go Go.Proofs
set_option maxRecDepth 100000
set_option maxHeartbeats 40000000
theorem aZ (t : V.Term) (ih : IHR (d5 t)) (ht : okT t = true) (ho : t.op = 18) (hc : o4 t.kids = false) : CallsV Tryz.prog 85 [.agg [.dat (.i t.op), .dat (.i t.w), .dat (.i t.n), .dat (.str t.name), .dat (.seq .terms t.kids)]] (s5 (d4 t)) := by
  refine oV Tryz.func85 ⟨?_⟩
  repeat' (first | ((with_reducible refine fun (K1 : KT) hK => ?_); refine l6 ⟨?_⟩) | ((with_reducible show K1 _ _); subst hK; conv => whnf) | (with_reducible refine f7 ?_) | (with_reducible exact rfl) | refine n7 ⟨?_⟩ | ((with_reducible show WEach _ _); refine d8 rfl ?_ ?_; conv => whnf) | refine m0 ⟨?_⟩ | ((with_reducible refine SplS.mk (fun h => ?_) (fun h => ?_)) <;> first | exact z1 | (subst h; conv => whnf) | (conv => whnf)) | refine u2 ⟨?_⟩ ⟨?_⟩ | ((with_reducible show Exists _); refine Exists.intro _ (And.intro (i_sameTerm ..) (And.intro rfl ?_)); rotate_right; conv => whnf) | ((with_reducible show Exists _); refine Exists.intro _ (And.intro (i_remake (ih := by assumption) (hk := ?_) (hm := ?_) ..) (And.intro rfl ?_)); rotate_right; conv => whnf) | ((with_reducible refine u1 (g := 108) ?_); (conv => whnf); refine ⟨_, _, i_sameTerm .., rfl, zV ?_⟩; rotate_right; conv => whnf) | ((with_reducible refine u1 (g := 109) ?_); (conv => whnf); refine ⟨_, _, i_remake (ih := asmR) (hk := ?_) (hm := ?_) .., rfl, zV ?_⟩; rotate_right; conv => whnf) | (intro h; conv => whnf))
  all_goals repeat clear hK K1
  all_goals first | exact True.intro | ((with_reducible show (_ : Int) ≤ _); omega) | ((with_reducible show (_ : Int) < _); first | exact z8 ht omG | exact o5 ht omG | exact n5 ht omG | exact z8 (d3 ht omG) omG | exact o5 (d3 ht omG) omG | exact n5 (d3 ht omG) omG | exact hC (d3 ht omG) omG | exact gC (d3 ht omG) omG | exact fC (d3 ht omG) omG | exact z8 (b4 ht omG) omG | exact o5 (b4 ht omG) omG | exact n5 (b4 ht omG) omG | exact hC (b4 ht omG) omG | exact gC (b4 ht omG) omG | exact fC (b4 ht omG) omG | omega) | (have c1 := fun h => xC (b4 ht omG) h; have w1 := aC (b4 ht omG); have v1 := fun h => aC (d3 (b4 ht omG) h); (simp only [V.Term.eta, Int.toNat_zero, Int.toNat_one, k0, k1, kAt] at *; (try simp only [u4 (n := (t.kids.getD 1 K.terms.dflt).n + (t.kids.getD 1 K.terms.dflt).w) omG omG] at *); (try (refine ⟨y0 (t := d4 t) ?_⟩; (try rw [V.Term.eta]))); first | omega | (obtain ⟨y, hr⟩ : ∃ y, l5 t = y := ⟨_, rfl⟩; have hz := hr; unfold l5 zG at hz; simp only [k0, k1, kAt] at hz; (repeat (first | rw [if_pos omG] at hz | rw [if_neg omG] at hz | rw [if_pos (by unfold u0; omega)] at hz | rw [if_neg (by unfold u0; omega)] at hz)); rw [← hz] at hr; (try rw [ho] at hr); first | exact q8 ht omG hc hr | exact ⟨gE (t := d4 t) (q8 ht omG hc hr)⟩ | exact (l9 ht omG hr).1 | exact (l9 ht omG hr).2))) | skip
/-! ### a constant as the first kid -/
abbrev zT : V.Term := ⟨0, 0, 0, ByteArray.empty, []⟩
def j6 (op w : Int) (a b : V.Term) : Option V.Term :=
  if (op = 3 ∧ a.n = 0) ∨ (op = 5 ∧ a.n = 1) ∨ (op = 8 ∧ a.n = onW a.w) ∨ (op = 9 ∧ a.n = 0) ∨ (op = 10 ∧ a.n = 0) ∨ (op = 14 ∧ a.w = 1 ∧ a.n = 1) then some b
  else if (op = 5 ∧ a.n = 0) ∨ (op = 8 ∧ a.n = 0) then some (cT w 0)
  else if op = 9 ∧ a.n = onW a.w then some (cT w (onW a.w))
  else if (op = 10 ∧ a.n = onW a.w) ∨ (op = 14 ∧ a.w = 1 ∧ a.n = 0) then some (d4 (oT 1 w 0 [b]))
  else none
structure FirstNo (op : Int) (a : V.Term) : Prop where
  n1 : ¬ ((op = 3 ∧ a.n = 0) ∨ (op = 5 ∧ a.n = 1) ∨ (op = 8 ∧ a.n = onW a.w) ∨ (op = 9 ∧ a.n = 0) ∨ (op = 10 ∧ a.n = 0) ∨ (op = 14 ∧ a.w = 1 ∧ a.n = 1))
  n2 : ¬ ((op = 5 ∧ a.n = 0) ∨ (op = 8 ∧ a.n = 0))
  n3 : ¬ (op = 9 ∧ a.n = onW a.w)
  n4 : ¬ ((op = 10 ∧ a.n = onW a.w) ∨ (op = 14 ∧ a.w = 1 ∧ a.n = 0))
theorem qas {op w : Int} {a b : V.Term} (h : (j6 op w a b).isSome = false) : FirstNo op a := by
  unfold j6 at h
  by_cases c1 : ((op = 3 ∧ a.n = 0) ∨ (op = 5 ∧ a.n = 1) ∨ (op = 8 ∧ a.n = onW a.w) ∨ (op = 9 ∧ a.n = 0) ∨ (op = 10 ∧ a.n = 0) ∨ (op = 14 ∧ a.w = 1 ∧ a.n = 1))
  · rw [if_pos c1] at h; cases h
  rw [if_neg c1] at h
  by_cases c2 : ((op = 5 ∧ a.n = 0) ∨ (op = 8 ∧ a.n = 0))
  · rw [if_pos c2] at h; cases h
  rw [if_neg c2] at h
  by_cases c3 : (op = 9 ∧ a.n = onW a.w)
  · rw [if_pos c3] at h; cases h
  rw [if_neg c3] at h
  by_cases c4 : ((op = 10 ∧ a.n = onW a.w) ∨ (op = 14 ∧ a.w = 1 ∧ a.n = 0))
  · rw [if_pos c4] at h; cases h
  exact ⟨c1, c2, c3, c4⟩
theorem qat {t : V.Term} (ht : okT t = true) (ho : 3 ≤ t.op ∧ t.op ≤ 16) (hc : o4 t.kids = false) (hs : ¬ (u0 t.op ∧ cmpT (k0 t) (k1 t) = 1)) (h0 : (k0 t).op = 0) (h : (j6 t.op t.w (k0 t) (k1 t)).isSome = true) : d4 t = (j6 t.op t.w (k0 t) (k1 t)).getD zT := by
  have hb : l5 t = f4 t := by unfold l5; rw [if_neg omG, if_neg omG, if_neg omG, if_neg omG, if_neg omG]
  unfold j6 at h ⊢
  by_cases c1 : ((t.op = 3 ∧ (k0 t).n = 0) ∨ (t.op = 5 ∧ (k0 t).n = 1) ∨ (t.op = 8 ∧ (k0 t).n = onW (k0 t).w) ∨ (t.op = 9 ∧ (k0 t).n = 0) ∨ (t.op = 10 ∧ (k0 t).n = 0) ∨ (t.op = 14 ∧ (k0 t).w = 1 ∧ (k0 t).n = 1))
  · have hr : l5 t = (k1 t, false) := by rw [hb]; unfold f4; rw [if_neg hs, if_pos ⟨h0, c1⟩]
    rw [q8 ht omG hc hr, if_pos c1]; rfl
  rw [if_neg c1] at h ⊢
  by_cases c2 : ((t.op = 5 ∧ (k0 t).n = 0) ∨ (t.op = 8 ∧ (k0 t).n = 0))
  · have hr : l5 t = (cT t.w 0, false) := by rw [hb]; unfold f4; rw [if_neg hs, if_neg (fun k => c1 k.2), if_pos ⟨h0, c2⟩]
    rw [q8 ht omG hc hr, if_pos c2]; rfl
  rw [if_neg c2] at h ⊢
  by_cases c3 : (t.op = 9 ∧ (k0 t).n = onW (k0 t).w)
  · have hr : l5 t = (cT t.w (onW (k0 t).w), false) := by rw [hb]; unfold f4; rw [if_neg hs, if_neg (fun k => c1 k.2), if_neg (fun k => c2 k.2), if_pos ⟨h0, c3⟩]
    rw [q8 ht omG hc hr, if_pos c3]; rfl
  rw [if_neg c3] at h ⊢
  by_cases c4 : ((t.op = 10 ∧ (k0 t).n = onW (k0 t).w) ∨ (t.op = 14 ∧ (k0 t).w = 1 ∧ (k0 t).n = 0))
  · have hr : l5 t = (oT 1 t.w 0 [k1 t], true) := by rw [hb]; unfold f4; rw [if_neg hs, if_neg (fun k => c1 k.2), if_neg (fun k => c2 k.2), if_neg (fun k => c3 k.2), if_pos ⟨h0, c4⟩]
    rw [q8 ht omG hc hr, if_pos c4]; rfl
  rw [if_neg c4] at h
  cases h
theorem qar {t : V.Term} (ht : okT t = true) (ho : 3 ≤ t.op ∧ t.op ≤ 16) (hs : ¬ (u0 t.op ∧ cmpT (k0 t) (k1 t) = 1)) (h0 : (k0 t).op = 0) (c4 : (t.op = 10 ∧ (k0 t).n = onW (k0 t).w) ∨ (t.op = 14 ∧ (k0 t).w = 1 ∧ (k0 t).n = 0)) (c1 : ¬ (t.op = 10 ∧ (k0 t).n = 0)) :
    okT (oT 1 t.w 0 [k1 t]) = true ∧ d5 (oT 1 t.w 0 [k1 t]) < d5 t := by
  have hb : l5 t = f4 t := by unfold l5; rw [if_neg omG, if_neg omG, if_neg omG, if_neg omG, if_neg omG]
  refine l9 ht omG ?_
  rw [hb]
  unfold f4
  rw [if_neg hs, if_neg omG, if_neg omG, if_neg omG, if_pos ⟨h0, c4⟩]
theorem oR {w : Int} (h : inP w 1 16 = true) : wordP w (onW w) = true := by
  have F := wf h
  have h3 := F.s3
  exact fA h (by show 0 ≤ (2 : Int) ^ w.toNat - 1; omega) (by show (2 : Int) ^ w.toNat - 1 < _; omega)
theorem fb_y {B : List Blk} {X : AV} {op w : Int} {a b : V.Term} (h : ∀ y, j6 op w a b = y → s8 B (.dat (.bool y.isSome)) X) : s8 B (.dat (.bool (j6 op w a b).isSome)) X := h _ rfl
theorem ft_y {B : List Blk} {X : AV} {op w : Int} {a b : V.Term} (h : ∀ y, j6 op w a b = y → s8 B (s5 (y.getD zT)) X) : s8 B (s5 ((j6 op w a b).getD zT)) X := h _ rfl
theorem cZ (op w : Int) (a b : V.Term) (m : Nat) (ih : IHR m) (ha : inP a.w 1 16 = true) (hw : inP w 1 16 = true) (h9 : op = 9 → w = a.w) (hk : (op = 10 ∧ a.n = onW a.w) ∨ (op = 14 ∧ a.w = 1 ∧ a.n = 0) → ¬ (op = 10 ∧ a.n = 0) → okT (oT 1 w 0 [b]) = true ∧ d5 (oT 1 w 0 [b]) < m) : CallsV Tryz.prog 112 [.dat (.i op), .dat (.i w), .agg [.dat (.i a.op), .dat (.i a.w), .dat (.i a.n), .dat (.str a.name), .dat (.seq .terms a.kids)], .agg [.dat (.i b.op), .dat (.i b.w), .dat (.i b.n), .dat (.str b.name), .dat (.seq .terms b.kids)]] (.tup [s5 ((j6 op w a b).getD zT), .dat (.bool (j6 op w a b).isSome)]) := by
  refine oV Tryz.func112 ⟨?_⟩
  repeat' (first | ((with_reducible refine fun (K1 : KT) hK => ?_); refine l6 ⟨?_⟩) | ((with_reducible show K1 _ _); subst hK; conv => whnf) | (with_reducible exact rfl) | refine m0 ⟨?_⟩ | ((with_reducible refine SplS.mk (fun h => ?_) (fun h => ?_)) <;> first | exact z1 | (subst h; conv => whnf) | (conv => whnf)) | refine u2 ⟨?_⟩ ⟨?_⟩ | ((with_reducible first | refine g0 (g := 63) ?_ | show Exists _); refine ⟨_, pN (hw := ?_) .., rfl, ?_⟩; rotate_right; conv => whnf) | ((with_reducible first | refine g0 (g := 50) ?_ | show Exists _); refine ⟨_, v7 (h := ?_) .., rfl, ?_⟩; rotate_right; conv => whnf) | ((with_reducible first | refine g0 (g := 109) ?_ | show Exists _); refine ⟨_, i_remake (ih := by assumption) (hk := ?_) (hm := ?_) .., rfl, ?_⟩; rotate_right; conv => whnf) | ((with_reducible refine u1 (g := 63) ?_); (conv => whnf); refine ⟨_, _, pN (hw := ?_) .., rfl, zV ?_⟩; rotate_right; conv => whnf) | ((with_reducible refine u1 (g := 50) ?_); (conv => whnf); refine ⟨_, _, v7 (h := ?_) .., rfl, zV ?_⟩; rotate_right; conv => whnf) | ((with_reducible refine u1 (g := 109) ?_); (conv => whnf); refine ⟨_, _, i_remake (ih := asmR) (hk := ?_) (hm := ?_) .., rfl, zV ?_⟩; rotate_right; conv => whnf) | (intro h; conv => whnf))
  all_goals repeat clear hK K1
  all_goals first | exact True.intro | exact ha | exact zero_word hw | (have e := h9 rfl; rw [e]; exact oR ha) | (rw [V.Term.eta]; first | exact (hk (.inl ⟨rfl, by with_reducible assumption⟩) omG).1 | exact (hk (.inl ⟨rfl, by with_reducible assumption⟩) omG).2 | exact (hk (.inr ⟨rfl, by with_reducible assumption, by with_reducible assumption⟩) omG).1 | exact (hk (.inr ⟨rfl, by with_reducible assumption, by with_reducible assumption⟩) omG).2) | ((try simp only [V.Term.eta, onW] at *); first | ((first | refine fb_y fun y hz => ?_ | refine ft_y fun y hz => ?_); clear hk h9; unfold j6 onW at hz; (repeat (first | rw [if_pos omG] at hz | rw [if_neg omG] at hz)); subst hz; first | exact rfl | exact fr5M (V.Term.eta _).symm | exact fr5M rfl | exact fr5Mn rfl)) | skip
def s4 (t : V.Term) : V.Term × Bool :=
  if (k1 t).op = 0 ∧ (k1 t).n = 0 ∧ (t.op = 4 ∨ t.op = 11 ∨ t.op = 12 ∨ t.op = 13) then (k0 t, false)
  else if (k1 t).op = 0 ∧ (k1 t).n = 0 ∧ t.op = 15 then (cT 1 0, false)
  else if cmpT (k0 t) (k1 t) = 0 ∧ (t.op = 8 ∨ t.op = 9) then (k0 t, false)
  else if cmpT (k0 t) (k1 t) = 0 ∧ (t.op = 4 ∨ t.op = 10 ∨ t.op = 15 ∨ t.op = 16) then (cT t.w 0, false)
  else if cmpT (k0 t) (k1 t) = 0 ∧ t.op = 14 then (cT 1 1, false)
  else if (u0 t.op ∧ t.op ≠ 14) ∧ (k0 t).op = 0 ∧ (k1 t).op = t.op ∧ (k0 (k1 t)).op = 0 then (oT t.op t.w 0 [cT t.w (d6 t.op t.w (k0 t).n (k0 (k1 t)).n), k1 (k1 t)], true)
  else (t, false)
theorem nM {t : V.Term} (ho : 3 ≤ t.op ∧ t.op ≤ 16) : l5 t = f4 t := by
  unfold l5
  rw [if_neg omG, if_neg omG, if_neg omG, if_neg omG, if_neg omG]
theorem cF {t : V.Term} (hs : u0 t.op) (hc : cmpT (k0 t) (k1 t) = 1) : f4 t = (oT t.op t.w 0 [k1 t, k0 t], true) := by
  unfold f4
  rw [if_pos ⟨hs, hc⟩]
theorem n9 {t : V.Term} (hs : ¬ (u0 t.op ∧ cmpT (k0 t) (k1 t) = 1)) (h0 : ¬ (k0 t).op = 0) : f4 t = s4 t := by
  unfold f4 s4
  rw [if_neg hs, if_neg (fun q => h0 q.1), if_neg (fun q => h0 q.1), if_neg (fun q => h0 q.1), if_neg (fun q => h0 q.1)]
theorem m9 {t : V.Term} (hs : ¬ (u0 t.op ∧ cmpT (k0 t) (k1 t) = 1)) (hf : (j6 t.op t.w (k0 t) (k1 t)).isSome = false) : f4 t = s4 t := by
  have f := qas hf
  unfold f4 s4
  rw [if_neg hs, if_neg (fun q => f.n1 q.2), if_neg (fun q => f.n2 q.2), if_neg (fun q => f.n3 q.2), if_neg (fun q => f.n4 q.2)]
theorem g5 {t x : V.Term} (ht : okT t = true) (ho : 3 ≤ t.op ∧ t.op ≤ 16) (hc : o4 t.kids = false) (hr : f4 t = (x, false)) : d4 t = x := by
  have := q8 ht omG hc ((nM ho).trans hr)
  rwa [if_neg Bool.false_ne_true] at this
theorem q9 {t x : V.Term} (ht : okT t = true) (ho : 3 ≤ t.op ∧ t.op ≤ 16) (hc : o4 t.kids = false) (hr : f4 t = (x, true)) : d4 t = d4 x := by
  have := q8 ht omG hc ((nM ho).trans hr)
  rwa [if_pos rfl] at this
theorem cB {t x : V.Term} (ht : okT t = true) (ho : 3 ≤ t.op ∧ t.op ≤ 16) (hr : f4 t = (x, true)) : okT x = true ∧ d5 x < d5 t := l9 ht omG ((nM ho).trans hr)
structure FK (op w : Int) (a b : V.Term) (m : Nat) : Prop where
  h : (op = 10 ∧ a.n = onW a.w) ∨ (op = 14 ∧ a.w = 1 ∧ a.n = 0) → ¬ (op = 10 ∧ a.n = 0) → okT (oT 1 w 0 [b]) = true ∧ d5 (oT 1 w 0 [b]) < m
structure F9 (op w w' : Int) : Prop where
  h : op = 9 → w = w'
theorem u7 (op w : Int) (a b : V.Term) (m : Nat) (ih : IHR m) (ha : inP a.w 1 16 = true) (hw : inP w 1 16 = true) (h9 : F9 op w a.w) (hk : FK op w a b m) :
    CallsV Tryz.prog 112 [.dat (.i op), .dat (.i w), .agg [.dat (.i a.op), .dat (.i a.w), .dat (.i a.n), .dat (.str a.name), .dat (.seq .terms a.kids)], .agg [.dat (.i b.op), .dat (.i b.w), .dat (.i b.n), .dat (.str b.name), .dat (.seq .terms b.kids)]]
      (.tup [s5 ((j6 op w a b).getD zT), .dat (.bool (j6 op w a b).isSome)]) := cZ op w a b m ih ha hw h9.h hk.h
theorem s9 {k : Int} {t : V.Term} (ht : okT t = true) (ho : t.op = k) (h3 : 3 ≤ k ∧ k ≤ 16) (hs : ¬ (u0 t.op ∧ cmpT (k0 t) (k1 t) = 1)) (h0 : (k0 t).op = 0) : FK k t.w (k0 t) (k1 t) (d5 t) := by
  subst ho
  exact ⟨fun c4 c1 => qar ht h3 hs h0 c4 c1⟩
theorem w9 {k : Int} {t : V.Term} (ht : okT t = true) (ho : t.op = k) (h3 : 3 ≤ k ∧ k ≤ 16) : F9 k t.w (k0 t).w := by
  subst ho
  exact ⟨fun e => (pD ht omG).1.symm⟩
theorem u9 {k : Int} {t : V.Term} (ht : okT t = true) (ho : t.op = k) (h3 : 3 ≤ k ∧ k ≤ 16) (hc : o4 t.kids = false) (hs : ¬ (u0 t.op ∧ cmpT (k0 t) (k1 t) = 1)) (h0 : (k0 t).op = 0) (h : (j6 k t.w (k0 t) (k1 t)).isSome = true) : d4 t = (j6 k t.w (k0 t) (k1 t)).getD zT := by
  subst ho
  exact qat ht h3 hc hs h0 h
theorem ns_3 {t : V.Term} (h : ¬ cmpT (k0 t) (k1 t) = 1) : ¬ (u0 t.op ∧ cmpT (k0 t) (k1 t) = 1) := fun q => h q.2
theorem sw_3 {t : V.Term} (ho : t.op = 3) (h : cmpT (k0 t) (k1 t) = 1) : f4 t = (oT 3 t.w 0 [k1 t, k0 t], true) := by
  rw [cF (by unfold u0; omega) h, ho]
theorem n1_3 {t : V.Term} (ho : t.op = 3) (hs : ¬ (u0 t.op ∧ cmpT (k0 t) (k1 t) = 1)) (hf : (j6 3 t.w (k0 t) (k1 t)).isSome = false) : f4 t = s4 t := m9 hs (by rw [ho]; exact hf)
theorem r2_3 {t : V.Term} (ho : t.op = 3) : s4 t = if ((k0 t).op = 0 ∧ (k1 t).op = 3 ∧ (k0 (k1 t)).op = 0) then (oT 3 t.w 0 [cT t.w (d6 3 t.w (k0 t).n (k0 (k1 t)).n), k1 (k1 t)], true) else (t, false) := by
  unfold s4 u0
  rw [ho]
  simp
theorem ns_4 {t : V.Term} (ho : t.op = 4) : ¬ (u0 t.op ∧ cmpT (k0 t) (k1 t) = 1) := by unfold u0; omega
theorem n1_4 {t : V.Term} (ho : t.op = 4) (hs : ¬ (u0 t.op ∧ cmpT (k0 t) (k1 t) = 1)) (hf : (j6 4 t.w (k0 t) (k1 t)).isSome = false) : f4 t = s4 t := m9 hs (by rw [ho]; exact hf)
theorem r2_4 {t : V.Term} (ho : t.op = 4) : s4 t = if ((k1 t).op = 0 ∧ (k1 t).n = 0) then (k0 t, false) else if cmpT (k0 t) (k1 t) = 0 then (cT t.w 0, false) else (t, false) := by
  unfold s4 u0
  rw [ho]
  simp
theorem ns_5 {t : V.Term} (h : ¬ cmpT (k0 t) (k1 t) = 1) : ¬ (u0 t.op ∧ cmpT (k0 t) (k1 t) = 1) := fun q => h q.2
theorem sw_5 {t : V.Term} (ho : t.op = 5) (h : cmpT (k0 t) (k1 t) = 1) : f4 t = (oT 5 t.w 0 [k1 t, k0 t], true) := by
  rw [cF (by unfold u0; omega) h, ho]
theorem n1_5 {t : V.Term} (ho : t.op = 5) (hs : ¬ (u0 t.op ∧ cmpT (k0 t) (k1 t) = 1)) (hf : (j6 5 t.w (k0 t) (k1 t)).isSome = false) : f4 t = s4 t := m9 hs (by rw [ho]; exact hf)
theorem r2_5 {t : V.Term} (ho : t.op = 5) : s4 t = if ((k0 t).op = 0 ∧ (k1 t).op = 5 ∧ (k0 (k1 t)).op = 0) then (oT 5 t.w 0 [cT t.w (d6 5 t.w (k0 t).n (k0 (k1 t)).n), k1 (k1 t)], true) else (t, false) := by
  unfold s4 u0
  rw [ho]
  simp
theorem ns_6 {t : V.Term} (ho : t.op = 6) : ¬ (u0 t.op ∧ cmpT (k0 t) (k1 t) = 1) := by unfold u0; omega
theorem n1_6 {t : V.Term} (ho : t.op = 6) (hs : ¬ (u0 t.op ∧ cmpT (k0 t) (k1 t) = 1)) (hf : (j6 6 t.w (k0 t) (k1 t)).isSome = false) : f4 t = s4 t := m9 hs (by rw [ho]; exact hf)
theorem r2_6 {t : V.Term} (ho : t.op = 6) : s4 t = (t, false) := by
  unfold s4 u0
  rw [ho]
  simp
theorem ns_7 {t : V.Term} (ho : t.op = 7) : ¬ (u0 t.op ∧ cmpT (k0 t) (k1 t) = 1) := by unfold u0; omega
theorem n1_7 {t : V.Term} (ho : t.op = 7) (hs : ¬ (u0 t.op ∧ cmpT (k0 t) (k1 t) = 1)) (hf : (j6 7 t.w (k0 t) (k1 t)).isSome = false) : f4 t = s4 t := m9 hs (by rw [ho]; exact hf)
theorem r2_7 {t : V.Term} (ho : t.op = 7) : s4 t = (t, false) := by
  unfold s4 u0
  rw [ho]
  simp
theorem ns_8 {t : V.Term} (h : ¬ cmpT (k0 t) (k1 t) = 1) : ¬ (u0 t.op ∧ cmpT (k0 t) (k1 t) = 1) := fun q => h q.2
theorem sw_8 {t : V.Term} (ho : t.op = 8) (h : cmpT (k0 t) (k1 t) = 1) : f4 t = (oT 8 t.w 0 [k1 t, k0 t], true) := by
  rw [cF (by unfold u0; omega) h, ho]
theorem n1_8 {t : V.Term} (ho : t.op = 8) (hs : ¬ (u0 t.op ∧ cmpT (k0 t) (k1 t) = 1)) (hf : (j6 8 t.w (k0 t) (k1 t)).isSome = false) : f4 t = s4 t := m9 hs (by rw [ho]; exact hf)
theorem r2_8 {t : V.Term} (ho : t.op = 8) : s4 t = if cmpT (k0 t) (k1 t) = 0 then (k0 t, false) else if ((k0 t).op = 0 ∧ (k1 t).op = 8 ∧ (k0 (k1 t)).op = 0) then (oT 8 t.w 0 [cT t.w (d6 8 t.w (k0 t).n (k0 (k1 t)).n), k1 (k1 t)], true) else (t, false) := by
  unfold s4 u0
  rw [ho]
  simp
theorem ns_9 {t : V.Term} (h : ¬ cmpT (k0 t) (k1 t) = 1) : ¬ (u0 t.op ∧ cmpT (k0 t) (k1 t) = 1) := fun q => h q.2
theorem sw_9 {t : V.Term} (ho : t.op = 9) (h : cmpT (k0 t) (k1 t) = 1) : f4 t = (oT 9 t.w 0 [k1 t, k0 t], true) := by
  rw [cF (by unfold u0; omega) h, ho]
theorem n1_9 {t : V.Term} (ho : t.op = 9) (hs : ¬ (u0 t.op ∧ cmpT (k0 t) (k1 t) = 1)) (hf : (j6 9 t.w (k0 t) (k1 t)).isSome = false) : f4 t = s4 t := m9 hs (by rw [ho]; exact hf)
theorem r2_9 {t : V.Term} (ho : t.op = 9) : s4 t = if cmpT (k0 t) (k1 t) = 0 then (k0 t, false) else if ((k0 t).op = 0 ∧ (k1 t).op = 9 ∧ (k0 (k1 t)).op = 0) then (oT 9 t.w 0 [cT t.w (d6 9 t.w (k0 t).n (k0 (k1 t)).n), k1 (k1 t)], true) else (t, false) := by
  unfold s4 u0
  rw [ho]
  simp
theorem bK {t : V.Term} (h : ¬ cmpT (k0 t) (k1 t) = 1) : ¬ (u0 t.op ∧ cmpT (k0 t) (k1 t) = 1) := fun q => h q.2
theorem sw_10 {t : V.Term} (ho : t.op = 10) (h : cmpT (k0 t) (k1 t) = 1) : f4 t = (oT 10 t.w 0 [k1 t, k0 t], true) := by
  rw [cF (by unfold u0; omega) h, ho]
theorem n1_10 {t : V.Term} (ho : t.op = 10) (hs : ¬ (u0 t.op ∧ cmpT (k0 t) (k1 t) = 1)) (hf : (j6 10 t.w (k0 t) (k1 t)).isSome = false) : f4 t = s4 t := m9 hs (by rw [ho]; exact hf)
theorem r2_10 {t : V.Term} (ho : t.op = 10) : s4 t = if cmpT (k0 t) (k1 t) = 0 then (cT t.w 0, false) else if ((k0 t).op = 0 ∧ (k1 t).op = 10 ∧ (k0 (k1 t)).op = 0) then (oT 10 t.w 0 [cT t.w (d6 10 t.w (k0 t).n (k0 (k1 t)).n), k1 (k1 t)], true) else (t, false) := by
  unfold s4 u0
  rw [ho]
  simp
theorem aK {t : V.Term} (ho : t.op = 11) : ¬ (u0 t.op ∧ cmpT (k0 t) (k1 t) = 1) := by unfold u0; omega
theorem n1_11 {t : V.Term} (ho : t.op = 11) (hs : ¬ (u0 t.op ∧ cmpT (k0 t) (k1 t) = 1)) (hf : (j6 11 t.w (k0 t) (k1 t)).isSome = false) : f4 t = s4 t := m9 hs (by rw [ho]; exact hf)
theorem r2_11 {t : V.Term} (ho : t.op = 11) : s4 t = if ((k1 t).op = 0 ∧ (k1 t).n = 0) then (k0 t, false) else (t, false) := by
  unfold s4 u0
  rw [ho]
  simp
theorem zJ {t : V.Term} (ho : t.op = 12) : ¬ (u0 t.op ∧ cmpT (k0 t) (k1 t) = 1) := by unfold u0; omega
theorem n1_12 {t : V.Term} (ho : t.op = 12) (hs : ¬ (u0 t.op ∧ cmpT (k0 t) (k1 t) = 1)) (hf : (j6 12 t.w (k0 t) (k1 t)).isSome = false) : f4 t = s4 t := m9 hs (by rw [ho]; exact hf)
theorem r2_12 {t : V.Term} (ho : t.op = 12) : s4 t = if ((k1 t).op = 0 ∧ (k1 t).n = 0) then (k0 t, false) else (t, false) := by
  unfold s4 u0
  rw [ho]
  simp
theorem yJ {t : V.Term} (ho : t.op = 13) : ¬ (u0 t.op ∧ cmpT (k0 t) (k1 t) = 1) := by unfold u0; omega
theorem n1_13 {t : V.Term} (ho : t.op = 13) (hs : ¬ (u0 t.op ∧ cmpT (k0 t) (k1 t) = 1)) (hf : (j6 13 t.w (k0 t) (k1 t)).isSome = false) : f4 t = s4 t := m9 hs (by rw [ho]; exact hf)
theorem r2_13 {t : V.Term} (ho : t.op = 13) : s4 t = if ((k1 t).op = 0 ∧ (k1 t).n = 0) then (k0 t, false) else (t, false) := by
  unfold s4 u0
  rw [ho]
  simp
theorem xJ {t : V.Term} (h : ¬ cmpT (k0 t) (k1 t) = 1) : ¬ (u0 t.op ∧ cmpT (k0 t) (k1 t) = 1) := fun q => h q.2
theorem sw_14 {t : V.Term} (ho : t.op = 14) (h : cmpT (k0 t) (k1 t) = 1) : f4 t = (oT 14 t.w 0 [k1 t, k0 t], true) := by
  rw [cF (by unfold u0; omega) h, ho]
theorem n1_14 {t : V.Term} (ho : t.op = 14) (hs : ¬ (u0 t.op ∧ cmpT (k0 t) (k1 t) = 1)) (hf : (j6 14 t.w (k0 t) (k1 t)).isSome = false) : f4 t = s4 t := m9 hs (by rw [ho]; exact hf)
theorem r2_14 {t : V.Term} (ho : t.op = 14) : s4 t = if cmpT (k0 t) (k1 t) = 0 then (cT 1 1, false) else (t, false) := by
  unfold s4 u0
  rw [ho]
  simp
theorem wJ {t : V.Term} (ho : t.op = 15) : ¬ (u0 t.op ∧ cmpT (k0 t) (k1 t) = 1) := by unfold u0; omega
theorem n1_15 {t : V.Term} (ho : t.op = 15) (hs : ¬ (u0 t.op ∧ cmpT (k0 t) (k1 t) = 1)) (hf : (j6 15 t.w (k0 t) (k1 t)).isSome = false) : f4 t = s4 t := m9 hs (by rw [ho]; exact hf)
theorem r2_15 {t : V.Term} (ho : t.op = 15) : s4 t = if ((k1 t).op = 0 ∧ (k1 t).n = 0) then (cT 1 0, false) else if cmpT (k0 t) (k1 t) = 0 then (cT t.w 0, false) else (t, false) := by
  unfold s4 u0
  rw [ho]
  simp
theorem vJ {t : V.Term} (ho : t.op = 16) : ¬ (u0 t.op ∧ cmpT (k0 t) (k1 t) = 1) := by unfold u0; omega
theorem n1_16 {t : V.Term} (ho : t.op = 16) (hs : ¬ (u0 t.op ∧ cmpT (k0 t) (k1 t) = 1)) (hf : (j6 16 t.w (k0 t) (k1 t)).isSome = false) : f4 t = s4 t := m9 hs (by rw [ho]; exact hf)
theorem r2_16 {t : V.Term} (ho : t.op = 16) : s4 t = if cmpT (k0 t) (k1 t) = 0 then (cT t.w 0, false) else (t, false) := by
  unfold s4 u0
  rw [ho]
  simp
theorem j9 {k : Int} {t : V.Term} (ho : t.op = k) : t = ⟨k, t.w, t.n, t.name, t.kids⟩ := by rw [← ho]; exact (V.Term.eta t).symm
theorem g9 {k : Int} {t : V.Term} (ht : okT t = true) (ho : t.op = k) (h3 : 3 ≤ k ∧ k ≤ 10) (h0 : (k0 t).op = 0) (h1 : (k1 t).op = k) (h2 : (k0 (k1 t)).op = 0) : wordP t.w (d6 k t.w (k0 t).n (k0 (k1 t)).n) = true := by
  have e := pD ht omG
  have a1 := b4 ht omG
  have f := pD a1 omG
  have w0 := lI (d3 ht omG) h0
  have w1 := lI (d3 a1 omG) h2
  rw [e.1] at w0
  rw [f.1, e.2] at w1
  exact jL omG w0 w1
theorem eA {a b c : Prop} (h : ¬ a) : ¬ (a ∧ b ∧ c) := fun q => h q.1
theorem dA {a b c : Prop} (h : ¬ b) : ¬ (a ∧ b ∧ c) := fun q => h q.2.1
theorem cA {a b c : Prop} (h : ¬ c) : ¬ (a ∧ b ∧ c) := fun q => h q.2.2
end Vg
