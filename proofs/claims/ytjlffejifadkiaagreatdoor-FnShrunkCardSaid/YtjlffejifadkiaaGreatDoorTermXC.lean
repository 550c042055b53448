/- Walks and laws that the proof leans on. No condition. -/
import Derived.Test.YtjlffejifadkiaaGreatDoorTermRB
import Derived.Test.YtjlffejifadkiaaGreatDoorRg
namespace Vg
open Go Go.Proofs
set_option maxRecDepth 100000
set_option maxHeartbeats 40000000
theorem qha (t : V.Term) (ih : IHR (f2 t)) (ht : okT t = true) (ho : t.op = 18) (hc : j4 t.kids = false) : CallsV Tryz.prog 187 [.agg [.dat (.i t.op), .dat (.i t.w), .dat (.i t.n), .dat (.str t.name), .dat (.seq .terms t.kids)]] (b4 (u2 t)) := by
  refine oV Tryz.func187 ⟨?_⟩
  repeat' (first | ((with_reducible refine fun (K1 : KT) hK => ?_); refine z1 ⟨?_⟩) | ((with_reducible show K1 _ _); subst hK; conv => whnf) | (with_reducible refine j5 ?_) | (with_reducible exact rfl) | refine r5 ⟨?_⟩ | ((with_reducible show WEach _ _); refine x6 rfl ?_ ?_; conv => whnf) | refine st0 ⟨?_⟩ | ((with_reducible refine SplS.mk (fun h => ?_) (fun h => ?_)) <;> first | exact r0 | (subst h; conv => whnf) | (conv => whnf)) | refine f1 ⟨?_⟩ ⟨?_⟩ | ((with_reducible show Exists _); refine Exists.intro _ (And.intro (i_sameTerm ..) (And.intro rfl ?_)); rotate_right; conv => whnf) | ((with_reducible show Exists _); refine Exists.intro _ (And.intro (i_remake (ih := by assumption) (hk := ?_) (hm := ?_) ..) (And.intro rfl ?_)); rotate_right; conv => whnf) | ((with_reducible refine t0 (g := 206) ?_); (conv => whnf); refine ⟨_, _, i_sameTerm .., rfl, zV ?_⟩; rotate_right; conv => whnf) | ((with_reducible refine t0 (g := 207) ?_); (conv => whnf); refine ⟨_, _, i_remake (ih := asmR) (hk := ?_) (hm := ?_) .., rfl, zV ?_⟩; rotate_right; conv => whnf) | (intro h; conv => whnf))
  all_goals repeat clear hK K1
  all_goals first | exact True.intro | ((with_reducible show (_ : Int) ≤ _); omega) | ((with_reducible show (_ : Int) < _); first | exact y7 ht omG | exact d3 ht omG | exact g4 ht omG | exact y7 (ok0 ht omG) omG | exact d3 (ok0 ht omG) omG | exact g4 (ok0 ht omG) omG | exact bB (ok0 ht omG) omG | exact aB (ok0 ht omG) omG | exact zA (ok0 ht omG) omG | exact y7 (u1 ht omG) omG | exact d3 (u1 ht omG) omG | exact g4 (u1 ht omG) omG | exact bB (u1 ht omG) omG | exact aB (u1 ht omG) omG | exact zA (u1 ht omG) omG | omega) | (have c1 := fun h => nC (u1 ht omG) h; have w1 := k8 (u1 ht omG); have v1 := fun h => k8 (ok0 (u1 ht omG) h); (simp only [V.Term.eta, Int.toNat_zero, Int.toNat_one, k0, k1, kAt] at *; (try simp only [wrap_id (n := (t.kids.getD 1 K.terms.dflt).n + (t.kids.getD 1 K.terms.dflt).w) omG omG] at *); (try (refine ⟨u0 (t := u2 t) ?_⟩; (try rw [V.Term.eta]))); first | omega | (obtain ⟨y, hr⟩ : ∃ y, z4 t = y := ⟨_, rfl⟩; have hz := hr; unfold z4 iF at hz; simp only [k0, k1, kAt] at hz; (repeat (first | rw [if_pos omG] at hz | rw [if_neg omG] at hz | rw [if_pos (by unfold d4; omega)] at hz | rw [if_neg (by unfold d4; omega)] at hz)); rw [← hz] at hr; (try rw [ho] at hr); first | exact l8 ht omG hc hr | exact ⟨vE (t := u2 t) (l8 ht omG hc hr)⟩ | exact (a8 ht omG hr).1 | exact (a8 ht omG hr).2))) | skip
/-! ### a constant as the first kid -/
abbrev zT : V.Term := ⟨0, 0, 0, ByteArray.empty, []⟩
def r3 (op w : Int) (a b : V.Term) : Option V.Term :=
  if (op = 3 ∧ a.n = 0) ∨ (op = 5 ∧ a.n = 1) ∨ (op = 8 ∧ a.n = onW a.w) ∨ (op = 9 ∧ a.n = 0) ∨ (op = 10 ∧ a.n = 0) ∨ (op = 14 ∧ a.w = 1 ∧ a.n = 1) then some b
  else if (op = 5 ∧ a.n = 0) ∨ (op = 8 ∧ a.n = 0) then some (cT w 0)
  else if op = 9 ∧ a.n = onW a.w then some (cT w (onW a.w))
  else if (op = 10 ∧ a.n = onW a.w) ∨ (op = 14 ∧ a.w = 1 ∧ a.n = 0) then some (u2 (oT 1 w 0 [b]))
  else none
structure FirstNo (op : Int) (a : V.Term) : Prop where
  n1 : ¬ ((op = 3 ∧ a.n = 0) ∨ (op = 5 ∧ a.n = 1) ∨ (op = 8 ∧ a.n = onW a.w) ∨ (op = 9 ∧ a.n = 0) ∨ (op = 10 ∧ a.n = 0) ∨ (op = 14 ∧ a.w = 1 ∧ a.n = 1))
  n2 : ¬ ((op = 5 ∧ a.n = 0) ∨ (op = 8 ∧ a.n = 0))
  n3 : ¬ (op = 9 ∧ a.n = onW a.w)
  n4 : ¬ ((op = 10 ∧ a.n = onW a.w) ∨ (op = 14 ∧ a.w = 1 ∧ a.n = 0))
theorem qib {op w : Int} {a b : V.Term} (h : (r3 op w a b).isSome = false) : FirstNo op a := by
  unfold r3 at h
  by_cases c1 : ((op = 3 ∧ a.n = 0) ∨ (op = 5 ∧ a.n = 1) ∨ (op = 8 ∧ a.n = onW a.w) ∨ (op = 9 ∧ a.n = 0) ∨ (op = 10 ∧ a.n = 0) ∨ (op = 14 ∧ a.w = 1 ∧ a.n = 1))
  · rw [if_pos c1] at h; cases h
  rw [if_neg c1] at h
  by_cases c2 : ((op = 5 ∧ a.n = 0) ∨ (op = 8 ∧ a.n = 0))
  · rw [if_pos c2] at h; cases h
  rw [if_neg c2] at h
  by_cases c3 : (op = 9 ∧ a.n = onW a.w)
  · rw [if_pos c3] at h; cases h
  rw [if_neg c3] at h
  by_cases c4 : ((op = 10 ∧ a.n = onW a.w) ∨ (op = 14 ∧ a.w = 1 ∧ a.n = 0))
  · rw [if_pos c4] at h; cases h
  exact ⟨c1, c2, c3, c4⟩
theorem qic {t : V.Term} (ht : okT t = true) (ho : 3 ≤ t.op ∧ t.op ≤ 16) (hc : j4 t.kids = false) (hs : ¬ (d4 t.op ∧ cmpT (k0 t) (k1 t) = 1)) (h0 : (k0 t).op = 0) (h : (r3 t.op t.w (k0 t) (k1 t)).isSome = true) : u2 t = (r3 t.op t.w (k0 t) (k1 t)).getD zT := by
  have hb : z4 t = p4 t := by unfold z4; rw [if_neg omG, if_neg omG, if_neg omG, if_neg omG, if_neg omG]
  unfold r3 at h ⊢
  by_cases c1 : ((t.op = 3 ∧ (k0 t).n = 0) ∨ (t.op = 5 ∧ (k0 t).n = 1) ∨ (t.op = 8 ∧ (k0 t).n = onW (k0 t).w) ∨ (t.op = 9 ∧ (k0 t).n = 0) ∨ (t.op = 10 ∧ (k0 t).n = 0) ∨ (t.op = 14 ∧ (k0 t).w = 1 ∧ (k0 t).n = 1))
  · have hr : z4 t = (k1 t, false) := by rw [hb]; unfold p4; rw [if_neg hs, if_pos ⟨h0, c1⟩]
    rw [l8 ht omG hc hr, if_pos c1]; rfl
  rw [if_neg c1] at h ⊢
  by_cases c2 : ((t.op = 5 ∧ (k0 t).n = 0) ∨ (t.op = 8 ∧ (k0 t).n = 0))
  · have hr : z4 t = (cT t.w 0, false) := by rw [hb]; unfold p4; rw [if_neg hs, if_neg (fun k => c1 k.2), if_pos ⟨h0, c2⟩]
    rw [l8 ht omG hc hr, if_pos c2]; rfl
  rw [if_neg c2] at h ⊢
  by_cases c3 : (t.op = 9 ∧ (k0 t).n = onW (k0 t).w)
  · have hr : z4 t = (cT t.w (onW (k0 t).w), false) := by rw [hb]; unfold p4; rw [if_neg hs, if_neg (fun k => c1 k.2), if_neg (fun k => c2 k.2), if_pos ⟨h0, c3⟩]
    rw [l8 ht omG hc hr, if_pos c3]; rfl
  rw [if_neg c3] at h ⊢
  by_cases c4 : ((t.op = 10 ∧ (k0 t).n = onW (k0 t).w) ∨ (t.op = 14 ∧ (k0 t).w = 1 ∧ (k0 t).n = 0))
  · have hr : z4 t = (oT 1 t.w 0 [k1 t], true) := by rw [hb]; unfold p4; rw [if_neg hs, if_neg (fun k => c1 k.2), if_neg (fun k => c2 k.2), if_neg (fun k => c3 k.2), if_pos ⟨h0, c4⟩]
    rw [l8 ht omG hc hr, if_pos c4]; rfl
  rw [if_neg c4] at h
  cases h
theorem qbz {t : V.Term} (ht : okT t = true) (ho : 3 ≤ t.op ∧ t.op ≤ 16) (hs : ¬ (d4 t.op ∧ cmpT (k0 t) (k1 t) = 1)) (h0 : (k0 t).op = 0) (c4 : (t.op = 10 ∧ (k0 t).n = onW (k0 t).w) ∨ (t.op = 14 ∧ (k0 t).w = 1 ∧ (k0 t).n = 0)) (c1 : ¬ (t.op = 10 ∧ (k0 t).n = 0)) :
    okT (oT 1 t.w 0 [k1 t]) = true ∧ f2 (oT 1 t.w 0 [k1 t]) < f2 t := by
  have hb : z4 t = p4 t := by unfold z4; rw [if_neg omG, if_neg omG, if_neg omG, if_neg omG, if_neg omG]
  refine a8 ht omG ?_
  rw [hb]
  unfold p4
  rw [if_neg hs, if_neg omG, if_neg omG, if_neg omG, if_pos ⟨h0, c4⟩]
theorem fY {w : Int} (h : inP w 1 16 = true) : wordP w (onW w) = true := by
  have F := wf h
  have h3 := F.s3
  exact xA h (by show 0 ≤ (2 : Int) ^ w.toNat - 1; omega) (by show (2 : Int) ^ w.toNat - 1 < _; omega)
theorem fB {B : List Blk} {X : AV} {op w : Int} {a b : V.Term} (h : ∀ y, r3 op w a b = y → frzM B (.dat (.bool y.isSome)) X) : frzM B (.dat (.bool (r3 op w a b).isSome)) X := h _ rfl
theorem ft_y {B : List Blk} {X : AV} {op w : Int} {a b : V.Term} (h : ∀ y, r3 op w a b = y → frzM B (b4 (y.getD zT)) X) : frzM B (b4 ((r3 op w a b).getD zT)) X := h _ rfl
theorem qhc (op w : Int) (a b : V.Term) (m : Nat) (ih : IHR m) (ha : inP a.w 1 16 = true) (hw : inP w 1 16 = true) (h9 : op = 9 → w = a.w) (hk : (op = 10 ∧ a.n = onW a.w) ∨ (op = 14 ∧ a.w = 1 ∧ a.n = 0) → ¬ (op = 10 ∧ a.n = 0) → okT (oT 1 w 0 [b]) = true ∧ f2 (oT 1 w 0 [b]) < m) : CallsV Tryz.prog 210 [.dat (.i op), .dat (.i w), .agg [.dat (.i a.op), .dat (.i a.w), .dat (.i a.n), .dat (.str a.name), .dat (.seq .terms a.kids)], .agg [.dat (.i b.op), .dat (.i b.w), .dat (.i b.n), .dat (.str b.name), .dat (.seq .terms b.kids)]] (.tup [b4 ((r3 op w a b).getD zT), .dat (.bool (r3 op w a b).isSome)]) := by
  refine oV Tryz.func210 ⟨?_⟩
  repeat' (first | ((with_reducible refine fun (K1 : KT) hK => ?_); refine z1 ⟨?_⟩) | ((with_reducible show K1 _ _); subst hK; conv => whnf) | (with_reducible exact rfl) | refine st0 ⟨?_⟩ | ((with_reducible refine SplS.mk (fun h => ?_) (fun h => ?_)) <;> first | exact r0 | (subst h; conv => whnf) | (conv => whnf)) | refine f1 ⟨?_⟩ ⟨?_⟩ | ((with_reducible first | refine n0 (g := 217) ?_ | show Exists _); refine ⟨_, qa0 (hw := ?_) .., rfl, ?_⟩; rotate_right; conv => whnf) | ((with_reducible first | refine n0 (g := 103) ?_ | show Exists _); refine ⟨_, i_ConstTerm (h := ?_) .., rfl, ?_⟩; rotate_right; conv => whnf) | ((with_reducible first | refine n0 (g := 207) ?_ | show Exists _); refine ⟨_, i_remake (ih := by assumption) (hk := ?_) (hm := ?_) .., rfl, ?_⟩; rotate_right; conv => whnf) | ((with_reducible refine t0 (g := 217) ?_); (conv => whnf); refine ⟨_, _, qa0 (hw := ?_) .., rfl, zV ?_⟩; rotate_right; conv => whnf) | ((with_reducible refine t0 (g := 103) ?_); (conv => whnf); refine ⟨_, _, i_ConstTerm (h := ?_) .., rfl, zV ?_⟩; rotate_right; conv => whnf) | ((with_reducible refine t0 (g := 207) ?_); (conv => whnf); refine ⟨_, _, i_remake (ih := asmR) (hk := ?_) (hm := ?_) .., rfl, zV ?_⟩; rotate_right; conv => whnf) | (intro h; conv => whnf))
  all_goals repeat clear hK K1
  all_goals first | exact True.intro | exact ha | exact zero_word hw | (have e := h9 rfl; rw [e]; exact fY ha) | (rw [V.Term.eta]; first | exact (hk (.inl ⟨rfl, by with_reducible assumption⟩) omG).1 | exact (hk (.inl ⟨rfl, by with_reducible assumption⟩) omG).2 | exact (hk (.inr ⟨rfl, by with_reducible assumption, by with_reducible assumption⟩) omG).1 | exact (hk (.inr ⟨rfl, by with_reducible assumption, by with_reducible assumption⟩) omG).2) | ((try simp only [V.Term.eta, onW] at *); first | ((first | refine fB fun y hz => ?_ | refine ft_y fun y hz => ?_); clear hk h9; unfold r3 onW at hz; (repeat (first | rw [if_pos omG] at hz | rw [if_neg omG] at hz)); subst hz; first | exact rfl | exact fr5M (V.Term.eta _).symm | exact fr5M rfl | exact fr5Mn rfl)) | skip
def m5 (t : V.Term) : V.Term × Bool :=
  if (k1 t).op = 0 ∧ (k1 t).n = 0 ∧ (t.op = 4 ∨ t.op = 11 ∨ t.op = 12 ∨ t.op = 13) then (k0 t, false)
  else if (k1 t).op = 0 ∧ (k1 t).n = 0 ∧ t.op = 15 then (cT 1 0, false)
  else if cmpT (k0 t) (k1 t) = 0 ∧ (t.op = 8 ∨ t.op = 9) then (k0 t, false)
  else if cmpT (k0 t) (k1 t) = 0 ∧ (t.op = 4 ∨ t.op = 10 ∨ t.op = 15 ∨ t.op = 16) then (cT t.w 0, false)
  else if cmpT (k0 t) (k1 t) = 0 ∧ t.op = 14 then (cT 1 1, false)
  else if (d4 t.op ∧ t.op ≠ 14) ∧ (k0 t).op = 0 ∧ (k1 t).op = t.op ∧ (k0 (k1 t)).op = 0 then (oT t.op t.w 0 [cT t.w (w5 t.op t.w (k0 t).n (k0 (k1 t)).n), k1 (k1 t)], true)
  else (t, false)
theorem kQ {t : V.Term} (ho : 3 ≤ t.op ∧ t.op ≤ 16) : z4 t = p4 t := by
  unfold z4
  rw [if_neg omG, if_neg omG, if_neg omG, if_neg omG, if_neg omG]
theorem fI {t : V.Term} (hs : d4 t.op) (hc : cmpT (k0 t) (k1 t) = 1) : p4 t = (oT t.op t.w 0 [k1 t, k0 t], true) := by
  unfold p4
  rw [if_pos ⟨hs, hc⟩]
theorem n7 {t : V.Term} (hs : ¬ (d4 t.op ∧ cmpT (k0 t) (k1 t) = 1)) (h0 : ¬ (k0 t).op = 0) : p4 t = m5 t := by
  unfold p4 m5
  rw [if_neg hs, if_neg (fun q => h0 q.1), if_neg (fun q => h0 q.1), if_neg (fun q => h0 q.1), if_neg (fun q => h0 q.1)]
theorem mB {t : V.Term} (hs : ¬ (d4 t.op ∧ cmpT (k0 t) (k1 t) = 1)) (hf : (r3 t.op t.w (k0 t) (k1 t)).isSome = false) : p4 t = m5 t := by
  have f := qib hf
  unfold p4 m5
  rw [if_neg hs, if_neg (fun q => f.n1 q.2), if_neg (fun q => f.n2 q.2), if_neg (fun q => f.n3 q.2), if_neg (fun q => f.n4 q.2)]
theorem i4 {t x : V.Term} (ht : okT t = true) (ho : 3 ≤ t.op ∧ t.op ≤ 16) (hc : j4 t.kids = false) (hr : p4 t = (x, false)) : u2 t = x := by
  have := l8 ht omG hc ((kQ ho).trans hr)
  rwa [if_neg Bool.false_ne_true] at this
theorem q5 {t x : V.Term} (ht : okT t = true) (ho : 3 ≤ t.op ∧ t.op ≤ 16) (hc : j4 t.kids = false) (hr : p4 t = (x, true)) : u2 t = u2 x := by
  have := l8 ht omG hc ((kQ ho).trans hr)
  rwa [if_pos rfl] at this
theorem k6 {t x : V.Term} (ht : okT t = true) (ho : 3 ≤ t.op ∧ t.op ≤ 16) (hr : p4 t = (x, true)) : okT x = true ∧ f2 x < f2 t := a8 ht omG ((kQ ho).trans hr)
structure FK (op w : Int) (a b : V.Term) (m : Nat) : Prop where
  h : (op = 10 ∧ a.n = onW a.w) ∨ (op = 14 ∧ a.w = 1 ∧ a.n = 0) → ¬ (op = 10 ∧ a.n = 0) → okT (oT 1 w 0 [b]) = true ∧ f2 (oT 1 w 0 [b]) < m
structure F9 (op w w' : Int) : Prop where
  h : op = 9 → w = w'
theorem u9 (op w : Int) (a b : V.Term) (m : Nat) (ih : IHR m) (ha : inP a.w 1 16 = true) (hw : inP w 1 16 = true) (h9 : F9 op w a.w) (hk : FK op w a b m) :
    CallsV Tryz.prog 210 [.dat (.i op), .dat (.i w), .agg [.dat (.i a.op), .dat (.i a.w), .dat (.i a.n), .dat (.str a.name), .dat (.seq .terms a.kids)], .agg [.dat (.i b.op), .dat (.i b.w), .dat (.i b.n), .dat (.str b.name), .dat (.seq .terms b.kids)]]
      (.tup [b4 ((r3 op w a b).getD zT), .dat (.bool (r3 op w a b).isSome)]) := qhc op w a b m ih ha hw h9.h hk.h
theorem wB {k : Int} {t : V.Term} (ht : okT t = true) (ho : t.op = k) (h3 : 3 ≤ k ∧ k ≤ 16) (hs : ¬ (d4 t.op ∧ cmpT (k0 t) (k1 t) = 1)) (h0 : (k0 t).op = 0) : FK k t.w (k0 t) (k1 t) (f2 t) := by
  subst ho
  exact ⟨fun c4 c1 => qbz ht h3 hs h0 c4 c1⟩
theorem yB {k : Int} {t : V.Term} (ht : okT t = true) (ho : t.op = k) (h3 : 3 ≤ k ∧ k ≤ 16) : F9 k t.w (k0 t).w := by
  subst ho
  exact ⟨fun e => (fit_b ht omG).1.symm⟩
theorem eB {k : Int} {t : V.Term} (ht : okT t = true) (ho : t.op = k) (h3 : 3 ≤ k ∧ k ≤ 16) (hc : j4 t.kids = false) (hs : ¬ (d4 t.op ∧ cmpT (k0 t) (k1 t) = 1)) (h0 : (k0 t).op = 0) (h : (r3 k t.w (k0 t) (k1 t)).isSome = true) : u2 t = (r3 k t.w (k0 t) (k1 t)).getD zT := by
  subst ho
  exact qic ht h3 hc hs h0 h
theorem uF {t : V.Term} (h : ¬ cmpT (k0 t) (k1 t) = 1) : ¬ (d4 t.op ∧ cmpT (k0 t) (k1 t) = 1) := fun q => h q.2
theorem sw_3 {t : V.Term} (ho : t.op = 3) (h : cmpT (k0 t) (k1 t) = 1) : p4 t = (oT 3 t.w 0 [k1 t, k0 t], true) := by
  rw [fI (by unfold d4; omega) h, ho]
theorem n1_3 {t : V.Term} (ho : t.op = 3) (hs : ¬ (d4 t.op ∧ cmpT (k0 t) (k1 t) = 1)) (hf : (r3 3 t.w (k0 t) (k1 t)).isSome = false) : p4 t = m5 t := mB hs (by rw [ho]; exact hf)
theorem r2_3 {t : V.Term} (ho : t.op = 3) : m5 t = if ((k0 t).op = 0 ∧ (k1 t).op = 3 ∧ (k0 (k1 t)).op = 0) then (oT 3 t.w 0 [cT t.w (w5 3 t.w (k0 t).n (k0 (k1 t)).n), k1 (k1 t)], true) else (t, false) := by
  unfold m5 d4
  rw [ho]
  simp
theorem tF {t : V.Term} (ho : t.op = 4) : ¬ (d4 t.op ∧ cmpT (k0 t) (k1 t) = 1) := by unfold d4; omega
theorem n1_4 {t : V.Term} (ho : t.op = 4) (hs : ¬ (d4 t.op ∧ cmpT (k0 t) (k1 t) = 1)) (hf : (r3 4 t.w (k0 t) (k1 t)).isSome = false) : p4 t = m5 t := mB hs (by rw [ho]; exact hf)
theorem r2_4 {t : V.Term} (ho : t.op = 4) : m5 t = if ((k1 t).op = 0 ∧ (k1 t).n = 0) then (k0 t, false) else if cmpT (k0 t) (k1 t) = 0 then (cT t.w 0, false) else (t, false) := by
  unfold m5 d4
  rw [ho]
  simp
theorem sF {t : V.Term} (h : ¬ cmpT (k0 t) (k1 t) = 1) : ¬ (d4 t.op ∧ cmpT (k0 t) (k1 t) = 1) := fun q => h q.2
theorem sw_5 {t : V.Term} (ho : t.op = 5) (h : cmpT (k0 t) (k1 t) = 1) : p4 t = (oT 5 t.w 0 [k1 t, k0 t], true) := by
  rw [fI (by unfold d4; omega) h, ho]
theorem n1_5 {t : V.Term} (ho : t.op = 5) (hs : ¬ (d4 t.op ∧ cmpT (k0 t) (k1 t) = 1)) (hf : (r3 5 t.w (k0 t) (k1 t)).isSome = false) : p4 t = m5 t := mB hs (by rw [ho]; exact hf)
theorem r2_5 {t : V.Term} (ho : t.op = 5) : m5 t = if ((k0 t).op = 0 ∧ (k1 t).op = 5 ∧ (k0 (k1 t)).op = 0) then (oT 5 t.w 0 [cT t.w (w5 5 t.w (k0 t).n (k0 (k1 t)).n), k1 (k1 t)], true) else (t, false) := by
  unfold m5 d4
  rw [ho]
  simp
theorem rF {t : V.Term} (ho : t.op = 6) : ¬ (d4 t.op ∧ cmpT (k0 t) (k1 t) = 1) := by unfold d4; omega
theorem n1_6 {t : V.Term} (ho : t.op = 6) (hs : ¬ (d4 t.op ∧ cmpT (k0 t) (k1 t) = 1)) (hf : (r3 6 t.w (k0 t) (k1 t)).isSome = false) : p4 t = m5 t := mB hs (by rw [ho]; exact hf)
theorem r2_6 {t : V.Term} (ho : t.op = 6) : m5 t = (t, false) := by
  unfold m5 d4
  rw [ho]
  simp
theorem qF {t : V.Term} (ho : t.op = 7) : ¬ (d4 t.op ∧ cmpT (k0 t) (k1 t) = 1) := by unfold d4; omega
theorem n1_7 {t : V.Term} (ho : t.op = 7) (hs : ¬ (d4 t.op ∧ cmpT (k0 t) (k1 t) = 1)) (hf : (r3 7 t.w (k0 t) (k1 t)).isSome = false) : p4 t = m5 t := mB hs (by rw [ho]; exact hf)
theorem r2_7 {t : V.Term} (ho : t.op = 7) : m5 t = (t, false) := by
  unfold m5 d4
  rw [ho]
  simp
theorem pF {t : V.Term} (h : ¬ cmpT (k0 t) (k1 t) = 1) : ¬ (d4 t.op ∧ cmpT (k0 t) (k1 t) = 1) := fun q => h q.2
theorem sw_8 {t : V.Term} (ho : t.op = 8) (h : cmpT (k0 t) (k1 t) = 1) : p4 t = (oT 8 t.w 0 [k1 t, k0 t], true) := by
  rw [fI (by unfold d4; omega) h, ho]
theorem n1_8 {t : V.Term} (ho : t.op = 8) (hs : ¬ (d4 t.op ∧ cmpT (k0 t) (k1 t) = 1)) (hf : (r3 8 t.w (k0 t) (k1 t)).isSome = false) : p4 t = m5 t := mB hs (by rw [ho]; exact hf)
theorem r2_8 {t : V.Term} (ho : t.op = 8) : m5 t = if cmpT (k0 t) (k1 t) = 0 then (k0 t, false) else if ((k0 t).op = 0 ∧ (k1 t).op = 8 ∧ (k0 (k1 t)).op = 0) then (oT 8 t.w 0 [cT t.w (w5 8 t.w (k0 t).n (k0 (k1 t)).n), k1 (k1 t)], true) else (t, false) := by
  unfold m5 d4
  rw [ho]
  simp
theorem nF {t : V.Term} (h : ¬ cmpT (k0 t) (k1 t) = 1) : ¬ (d4 t.op ∧ cmpT (k0 t) (k1 t) = 1) := fun q => h q.2
theorem sw_9 {t : V.Term} (ho : t.op = 9) (h : cmpT (k0 t) (k1 t) = 1) : p4 t = (oT 9 t.w 0 [k1 t, k0 t], true) := by
  rw [fI (by unfold d4; omega) h, ho]
theorem n1_9 {t : V.Term} (ho : t.op = 9) (hs : ¬ (d4 t.op ∧ cmpT (k0 t) (k1 t) = 1)) (hf : (r3 9 t.w (k0 t) (k1 t)).isSome = false) : p4 t = m5 t := mB hs (by rw [ho]; exact hf)
theorem r2_9 {t : V.Term} (ho : t.op = 9) : m5 t = if cmpT (k0 t) (k1 t) = 0 then (k0 t, false) else if ((k0 t).op = 0 ∧ (k1 t).op = 9 ∧ (k0 (k1 t)).op = 0) then (oT 9 t.w 0 [cT t.w (w5 9 t.w (k0 t).n (k0 (k1 t)).n), k1 (k1 t)], true) else (t, false) := by
  unfold m5 d4
  rw [ho]
  simp
theorem bG {t : V.Term} (h : ¬ cmpT (k0 t) (k1 t) = 1) : ¬ (d4 t.op ∧ cmpT (k0 t) (k1 t) = 1) := fun q => h q.2
theorem sw_10 {t : V.Term} (ho : t.op = 10) (h : cmpT (k0 t) (k1 t) = 1) : p4 t = (oT 10 t.w 0 [k1 t, k0 t], true) := by
  rw [fI (by unfold d4; omega) h, ho]
theorem n1_10 {t : V.Term} (ho : t.op = 10) (hs : ¬ (d4 t.op ∧ cmpT (k0 t) (k1 t) = 1)) (hf : (r3 10 t.w (k0 t) (k1 t)).isSome = false) : p4 t = m5 t := mB hs (by rw [ho]; exact hf)
theorem r2_10 {t : V.Term} (ho : t.op = 10) : m5 t = if cmpT (k0 t) (k1 t) = 0 then (cT t.w 0, false) else if ((k0 t).op = 0 ∧ (k1 t).op = 10 ∧ (k0 (k1 t)).op = 0) then (oT 10 t.w 0 [cT t.w (w5 10 t.w (k0 t).n (k0 (k1 t)).n), k1 (k1 t)], true) else (t, false) := by
  unfold m5 d4
  rw [ho]
  simp
theorem aG {t : V.Term} (ho : t.op = 11) : ¬ (d4 t.op ∧ cmpT (k0 t) (k1 t) = 1) := by unfold d4; omega
theorem n1_11 {t : V.Term} (ho : t.op = 11) (hs : ¬ (d4 t.op ∧ cmpT (k0 t) (k1 t) = 1)) (hf : (r3 11 t.w (k0 t) (k1 t)).isSome = false) : p4 t = m5 t := mB hs (by rw [ho]; exact hf)
theorem r2_11 {t : V.Term} (ho : t.op = 11) : m5 t = if ((k1 t).op = 0 ∧ (k1 t).n = 0) then (k0 t, false) else (t, false) := by
  unfold m5 d4
  rw [ho]
  simp
theorem zF {t : V.Term} (ho : t.op = 12) : ¬ (d4 t.op ∧ cmpT (k0 t) (k1 t) = 1) := by unfold d4; omega
theorem n1_12 {t : V.Term} (ho : t.op = 12) (hs : ¬ (d4 t.op ∧ cmpT (k0 t) (k1 t) = 1)) (hf : (r3 12 t.w (k0 t) (k1 t)).isSome = false) : p4 t = m5 t := mB hs (by rw [ho]; exact hf)
theorem r2_12 {t : V.Term} (ho : t.op = 12) : m5 t = if ((k1 t).op = 0 ∧ (k1 t).n = 0) then (k0 t, false) else (t, false) := by
  unfold m5 d4
  rw [ho]
  simp
theorem yF {t : V.Term} (ho : t.op = 13) : ¬ (d4 t.op ∧ cmpT (k0 t) (k1 t) = 1) := by unfold d4; omega
theorem n1_13 {t : V.Term} (ho : t.op = 13) (hs : ¬ (d4 t.op ∧ cmpT (k0 t) (k1 t) = 1)) (hf : (r3 13 t.w (k0 t) (k1 t)).isSome = false) : p4 t = m5 t := mB hs (by rw [ho]; exact hf)
theorem r2_13 {t : V.Term} (ho : t.op = 13) : m5 t = if ((k1 t).op = 0 ∧ (k1 t).n = 0) then (k0 t, false) else (t, false) := by
  unfold m5 d4
  rw [ho]
  simp
theorem xF {t : V.Term} (h : ¬ cmpT (k0 t) (k1 t) = 1) : ¬ (d4 t.op ∧ cmpT (k0 t) (k1 t) = 1) := fun q => h q.2
theorem sw_14 {t : V.Term} (ho : t.op = 14) (h : cmpT (k0 t) (k1 t) = 1) : p4 t = (oT 14 t.w 0 [k1 t, k0 t], true) := by
  rw [fI (by unfold d4; omega) h, ho]
theorem n1_14 {t : V.Term} (ho : t.op = 14) (hs : ¬ (d4 t.op ∧ cmpT (k0 t) (k1 t) = 1)) (hf : (r3 14 t.w (k0 t) (k1 t)).isSome = false) : p4 t = m5 t := mB hs (by rw [ho]; exact hf)
theorem r2_14 {t : V.Term} (ho : t.op = 14) : m5 t = if cmpT (k0 t) (k1 t) = 0 then (cT 1 1, false) else (t, false) := by
  unfold m5 d4
  rw [ho]
  simp
theorem wF {t : V.Term} (ho : t.op = 15) : ¬ (d4 t.op ∧ cmpT (k0 t) (k1 t) = 1) := by unfold d4; omega
theorem n1_15 {t : V.Term} (ho : t.op = 15) (hs : ¬ (d4 t.op ∧ cmpT (k0 t) (k1 t) = 1)) (hf : (r3 15 t.w (k0 t) (k1 t)).isSome = false) : p4 t = m5 t := mB hs (by rw [ho]; exact hf)
theorem r2_15 {t : V.Term} (ho : t.op = 15) : m5 t = if ((k1 t).op = 0 ∧ (k1 t).n = 0) then (cT 1 0, false) else if cmpT (k0 t) (k1 t) = 0 then (cT t.w 0, false) else (t, false) := by
  unfold m5 d4
  rw [ho]
  simp
theorem vF {t : V.Term} (ho : t.op = 16) : ¬ (d4 t.op ∧ cmpT (k0 t) (k1 t) = 1) := by unfold d4; omega
theorem n1_16 {t : V.Term} (ho : t.op = 16) (hs : ¬ (d4 t.op ∧ cmpT (k0 t) (k1 t) = 1)) (hf : (r3 16 t.w (k0 t) (k1 t)).isSome = false) : p4 t = m5 t := mB hs (by rw [ho]; exact hf)
theorem r2_16 {t : V.Term} (ho : t.op = 16) : m5 t = if cmpT (k0 t) (k1 t) = 0 then (cT t.w 0, false) else (t, false) := by
  unfold m5 d4
  rw [ho]
  simp
theorem te_of {k : Int} {t : V.Term} (ho : t.op = k) : t = ⟨k, t.w, t.n, t.name, t.kids⟩ := by rw [← ho]; exact (V.Term.eta t).symm
theorem l7 {k : Int} {t : V.Term} (ht : okT t = true) (ho : t.op = k) (h3 : 3 ≤ k ∧ k ≤ 10) (h0 : (k0 t).op = 0) (h1 : (k1 t).op = k) (h2 : (k0 (k1 t)).op = 0) : wordP t.w (w5 k t.w (k0 t).n (k0 (k1 t)).n) = true := by
  have e := fit_b ht omG
  have a1 := u1 ht omG
  have f := fit_b a1 omG
  have w0 := xE (ok0 ht omG) h0
  have w1 := xE (ok0 a1 omG) h2
  rw [e.1] at w0
  rw [f.1, e.2] at w1
  exact kU omG w0 w1
theorem s7 {a b c : Prop} (h : ¬ a) : ¬ (a ∧ b ∧ c) := fun q => h q.1
theorem r7 {a b c : Prop} (h : ¬ b) : ¬ (a ∧ b ∧ c) := fun q => h q.2.1
theorem q7 {a b c : Prop} (h : ¬ c) : ¬ (a ∧ b ∧ c) := fun q => h q.2.2
end Vg
