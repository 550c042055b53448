/- Walks and laws that the proof leans on. No condition. -/
import Derived.Test.YtfjkpndogncdcaaGreatDoorTermRB
import Derived.Test.YtfjkpndogncdcaaGreatDoorRg
namespace Vg
open Go Go.Proofs
set_option maxRecDepth 100000
set_option maxHeartbeats 40000000
/-! ### a constant as the first kid -/
abbrev zT : V.Term := ⟨0, 0, 0, ByteArray.empty, []⟩
def k4 (op w : Int) (a b : V.Term) : Option V.Term :=
  if (op = 3 /\ a.n = 0) \/ (op = 5 /\ a.n = 1) \/ (op = 8 /\ a.n = onW a.w) \/ (op = 9 /\ a.n = 0) \/ (op = 10 /\ a.n = 0) \/ (op = 14 /\ a.w = 1 /\ a.n = 1) then some b
  else if (op = 5 /\ a.n = 0) \/ (op = 8 /\ a.n = 0) then some (cT w 0)
  else if op = 9 /\ a.n = onW a.w then some (cT w (onW a.w))
  else if (op = 10 /\ a.n = onW a.w) \/ (op = 14 /\ a.w = 1 /\ a.n = 0) then some (p3 (oT 1 w 0 [b]))
  else none
structure FirstNo (op : Int) (a : V.Term) : Prop where
  n1 : ¬ ((op = 3 /\ a.n = 0) \/ (op = 5 /\ a.n = 1) \/ (op = 8 /\ a.n = onW a.w) \/ (op = 9 /\ a.n = 0) \/ (op = 10 /\ a.n = 0) \/ (op = 14 /\ a.w = 1 /\ a.n = 1))
  n2 : ¬ ((op = 5 /\ a.n = 0) \/ (op = 8 /\ a.n = 0))
  n3 : ¬ (op = 9 /\ a.n = onW a.w)
  n4 : ¬ ((op = 10 /\ a.n = onW a.w) \/ (op = 14 /\ a.w = 1 /\ a.n = 0))
theorem qmi {op w : Int} {a b : V.Term} (h : (k4 op w a b).isSome = false) : FirstNo op a := by
  unfold k4 at h
  by_cases c1 : ((op = 3 /\ a.n = 0) \/ (op = 5 /\ a.n = 1) \/ (op = 8 /\ a.n = onW a.w) \/ (op = 9 /\ a.n = 0) \/ (op = 10 /\ a.n = 0) \/ (op = 14 /\ a.w = 1 /\ a.n = 1))
  . rw [if_pos c1] at h; cases h
  rw [if_neg c1] at h
  by_cases c2 : ((op = 5 /\ a.n = 0) \/ (op = 8 /\ a.n = 0))
  . rw [if_pos c2] at h; cases h
  rw [if_neg c2] at h
  by_cases c3 : (op = 9 /\ a.n = onW a.w)
  . rw [if_pos c3] at h; cases h
  rw [if_neg c3] at h
  by_cases c4 : ((op = 10 /\ a.n = onW a.w) \/ (op = 14 /\ a.w = 1 /\ a.n = 0))
  . rw [if_pos c4] at h; cases h
  exact ⟨c1, c2, c3, c4⟩
theorem qmj {t : V.Term} (ht : okT t = true) (ho : 3 <= t.op /\ t.op <= 16) (hc : y4 t.kids = false) (hs : ¬ (j3 t.op /\ cmpT (k0 t) (k1 t) = 1)) (h0 : (k0 t).op = 0) (h : (k4 t.op t.w (k0 t) (k1 t)).isSome = true) : p3 t = (k4 t.op t.w (k0 t) (k1 t)).getD zT := by
  have hb : u5 t = x5 t := by unfold u5; rw [if_neg omG, if_neg omG, if_neg omG, if_neg omG, if_neg omG]
  unfold k4 at h ⊢
  by_cases c1 : ((t.op = 3 /\ (k0 t).n = 0) \/ (t.op = 5 /\ (k0 t).n = 1) \/ (t.op = 8 /\ (k0 t).n = onW (k0 t).w) \/ (t.op = 9 /\ (k0 t).n = 0) \/ (t.op = 10 /\ (k0 t).n = 0) \/ (t.op = 14 /\ (k0 t).w = 1 /\ (k0 t).n = 1))
  . have hr : u5 t = (k1 t, false) := by rw [hb]; unfold x5; rw [if_neg hs, if_pos ⟨h0, c1⟩]
    rw [cA ht omG hc hr, if_pos c1]; rfl
  rw [if_neg c1] at h ⊢
  by_cases c2 : ((t.op = 5 /\ (k0 t).n = 0) \/ (t.op = 8 /\ (k0 t).n = 0))
  . have hr : u5 t = (cT t.w 0, false) := by rw [hb]; unfold x5; rw [if_neg hs, if_neg (fun k => c1 k.2), if_pos ⟨h0, c2⟩]
    rw [cA ht omG hc hr, if_pos c2]; rfl
  rw [if_neg c2] at h ⊢
  by_cases c3 : (t.op = 9 /\ (k0 t).n = onW (k0 t).w)
  . have hr : u5 t = (cT t.w (onW (k0 t).w), false) := by rw [hb]; unfold x5; rw [if_neg hs, if_neg (fun k => c1 k.2), if_neg (fun k => c2 k.2), if_pos ⟨h0, c3⟩]
    rw [cA ht omG hc hr, if_pos c3]; rfl
  rw [if_neg c3] at h ⊢
  by_cases c4 : ((t.op = 10 /\ (k0 t).n = onW (k0 t).w) \/ (t.op = 14 /\ (k0 t).w = 1 /\ (k0 t).n = 0))
  . have hr : u5 t = (oT 1 t.w 0 [k1 t], true) := by rw [hb]; unfold x5; rw [if_neg hs, if_neg (fun k => c1 k.2), if_neg (fun k => c2 k.2), if_neg (fun k => c3 k.2), if_pos ⟨h0, c4⟩]
    rw [cA ht omG hc hr, if_pos c4]; rfl
  rw [if_neg c4] at h
  cases h
theorem qem {t : V.Term} (ht : okT t = true) (ho : 3 <= t.op /\ t.op <= 16) (hs : ¬ (j3 t.op /\ cmpT (k0 t) (k1 t) = 1)) (h0 : (k0 t).op = 0) (c4 : (t.op = 10 /\ (k0 t).n = onW (k0 t).w) \/ (t.op = 14 /\ (k0 t).w = 1 /\ (k0 t).n = 0)) (c1 : ¬ (t.op = 10 /\ (k0 t).n = 0)) :
    okT (oT 1 t.w 0 [k1 t]) = true /\ g5 (oT 1 t.w 0 [k1 t]) < g5 t := by
  have hb : u5 t = x5 t := by unfold u5; rw [if_neg omG, if_neg omG, if_neg omG, if_neg omG, if_neg omG]
  refine m9 ht omG ?_
  rw [hb]
  unfold x5
  rw [if_neg hs, if_neg omG, if_neg omG, if_neg omG, if_pos ⟨h0, c4⟩]
theorem qbo {w : Int} (h : inP w 1 16 = true) : wordP w (onW w) = true := by
  have F := wf h
  have h3 := F.s3
  exact nC h (by show 0 <= (2 : Int) ^ w.toNat - 1; omega) (by show (2 : Int) ^ w.toNat - 1 < _; omega)
theorem oJ {B : List Blk} {X : AV} {op w : Int} {a b : V.Term} (h : ∀ y, k4 op w a b = y -> frzM B (.dat (.bool y.isSome)) X) : frzM B (.dat (.bool (k4 op w a b).isSome)) X := h _ rfl
theorem ft_y {B : List Blk} {X : AV} {op w : Int} {a b : V.Term} (h : ∀ y, k4 op w a b = y -> frzM B (s4 (y.getD zT)) X) : frzM B (s4 ((k4 op w a b).getD zT)) X := h _ rfl
theorem qk4 (op w : Int) (a b : V.Term) (m : Nat) (ih : IHR m) (ha : inP a.w 1 16 = true) (hw : inP w 1 16 = true) (h9 : op = 9 -> w = a.w) (hk : (op = 10 /\ a.n = onW a.w) \/ (op = 14 /\ a.w = 1 /\ a.n = 0) -> ¬ (op = 10 /\ a.n = 0) -> okT (oT 1 w 0 [b]) = true /\ g5 (oT 1 w 0 [b]) < m) : CallsV Tryz.prog 194 [.dat (.i op), .dat (.i w), .agg [.dat (.i a.op), .dat (.i a.w), .dat (.i a.n), .dat (.str a.name), .dat (.seq .terms a.kids)], .agg [.dat (.i b.op), .dat (.i b.w), .dat (.i b.n), .dat (.str b.name), .dat (.seq .terms b.kids)]] (.tup [s4 ((k4 op w a b).getD zT), .dat (.bool (k4 op w a b).isSome)]) := by
  refine oV Tryz.func194 ⟨?_⟩
  repeat' (first | ((with_reducible refine fun (K1 : KT) hK => ?_); refine z2 ⟨?_⟩) | ((with_reducible show K1 _ _); subst hK; conv => whnf) | refine st0 ⟨?_⟩ | ((with_reducible refine SplS.mk (fun h => ?_) (fun h => ?_)) <;> first | exact m4 | (subst h; conv => whnf) | (conv => whnf)) | refine s1 ⟨?_⟩ ⟨?_⟩ | refine vP (qla (hw := ?_) ..) ⟨?_⟩ | refine vP (xG (h := ?_) ..) ⟨?_⟩ | ((with_reducible refine iA (g := 192) ?_); (conv => whnf); refine ⟨_, _, zH (ih := asmR) (hk := ?_) (hm := ?_) .., rfl, zV ?_⟩; rotate_right; conv => whnf))
  all_goals repeat clear hK K1
  all_goals first | exact True.intro | exact ha | exact zero_word hw | (have e := h9 rfl; rw [e]; exact qbo ha) | (rw [V.Term.eta]; first | exact (hk (.inl ⟨rfl, by with_reducible assumption⟩) omG).1 | exact (hk (.inl ⟨rfl, by with_reducible assumption⟩) omG).2 | exact (hk (.inr ⟨rfl, by with_reducible assumption, by with_reducible assumption⟩) omG).1 | exact (hk (.inr ⟨rfl, by with_reducible assumption, by with_reducible assumption⟩) omG).2) | ((try simp only [V.Term.eta, onW] at *); first | ((first | refine oJ fun y hz => ?_ | refine ft_y fun y hz => ?_); clear hk h9; unfold k4 onW at hz; (repeat (first | rw [if_pos omG] at hz | rw [if_neg omG] at hz)); subst hz; first | exact rfl | exact fr5M (V.Term.eta _).symm | exact fr5M rfl | exact fr5Mn rfl)) | skip
def j6 (t : V.Term) : V.Term × Bool :=
  if (k1 t).op = 0 /\ (k1 t).n = 0 /\ (t.op = 4 \/ t.op = 11 \/ t.op = 12 \/ t.op = 13) then (k0 t, false)
  else if (k1 t).op = 0 /\ (k1 t).n = 0 /\ t.op = 15 then (cT 1 0, false)
  else if cmpT (k0 t) (k1 t) = 0 /\ (t.op = 8 \/ t.op = 9) then (k0 t, false)
  else if cmpT (k0 t) (k1 t) = 0 /\ (t.op = 4 \/ t.op = 10 \/ t.op = 15 \/ t.op = 16) then (cT t.w 0, false)
  else if cmpT (k0 t) (k1 t) = 0 /\ t.op = 14 then (cT 1 1, false)
  else if (j3 t.op /\ t.op ≠ 14) /\ (k0 t).op = 0 /\ (k1 t).op = t.op /\ (k0 (k1 t)).op = 0 then (oT t.op t.w 0 [cT t.w (r3 t.op t.w (k0 t).n (k0 (k1 t)).n), k1 (k1 t)], true)
  else (t, false)
theorem eU {t : V.Term} (ho : 3 <= t.op /\ t.op <= 16) : u5 t = x5 t := by
  unfold u5
  rw [if_neg omG, if_neg omG, if_neg omG, if_neg omG, if_neg omG]
theorem rK {t : V.Term} (hs : j3 t.op) (hc : cmpT (k0 t) (k1 t) = 1) : x5 t = (oT t.op t.w 0 [k1 t, k0 t], true) := by
  unfold x5
  rw [if_pos ⟨hs, hc⟩]
theorem pE {t : V.Term} (hs : ¬ (j3 t.op /\ cmpT (k0 t) (k1 t) = 1)) (h0 : ¬ (k0 t).op = 0) : x5 t = j6 t := by
  unfold x5 j6
  rw [if_neg hs, if_neg (fun q => h0 q.1), if_neg (fun q => h0 q.1), if_neg (fun q => h0 q.1), if_neg (fun q => h0 q.1)]
theorem qC {t : V.Term} (hs : ¬ (j3 t.op /\ cmpT (k0 t) (k1 t) = 1)) (hf : (k4 t.op t.w (k0 t) (k1 t)).isSome = false) : x5 t = j6 t := by
  have f := qmi hf
  unfold x5 j6
  rw [if_neg hs, if_neg (fun q => f.n1 q.2), if_neg (fun q => f.n2 q.2), if_neg (fun q => f.n3 q.2), if_neg (fun q => f.n4 q.2)]
theorem s7 {t x : V.Term} (ht : okT t = true) (ho : 3 <= t.op /\ t.op <= 16) (hc : y4 t.kids = false) (hr : x5 t = (x, false)) : p3 t = x := by
  have := cA ht omG hc ((eU ho).trans hr)
  rwa [if_neg Bool.false_ne_true] at this
theorem kB {t x : V.Term} (ht : okT t = true) (ho : 3 <= t.op /\ t.op <= 16) (hc : y4 t.kids = false) (hr : x5 t = (x, true)) : p3 t = p3 x := by
  have := cA ht omG hc ((eU ho).trans hr)
  rwa [if_pos rfl] at this
theorem j8 {t x : V.Term} (ht : okT t = true) (ho : 3 <= t.op /\ t.op <= 16) (hr : x5 t = (x, true)) : okT x = true /\ g5 x < g5 t := m9 ht omG ((eU ho).trans hr)
structure FK (op w : Int) (a b : V.Term) (m : Nat) : Prop where
  h : (op = 10 /\ a.n = onW a.w) \/ (op = 14 /\ a.w = 1 /\ a.n = 0) -> ¬ (op = 10 /\ a.n = 0) -> okT (oT 1 w 0 [b]) = true /\ g5 (oT 1 w 0 [b]) < m
structure F9 (op w w' : Int) : Prop where
  h : op = 9 -> w = w'
theorem sN (op w : Int) (a b : V.Term) (m : Nat) (ih : IHR m) (ha : inP a.w 1 16 = true) (hw : inP w 1 16 = true) (h9 : F9 op w a.w) (hk : FK op w a b m) :
    CallsV Tryz.prog 194 [.dat (.i op), .dat (.i w), .agg [.dat (.i a.op), .dat (.i a.w), .dat (.i a.n), .dat (.str a.name), .dat (.seq .terms a.kids)], .agg [.dat (.i b.op), .dat (.i b.w), .dat (.i b.n), .dat (.str b.name), .dat (.seq .terms b.kids)]]
      (.tup [s4 ((k4 op w a b).getD zT), .dat (.bool (k4 op w a b).isSome)]) := qk4 op w a b m ih ha hw h9.h hk.h
theorem aO {k : Int} {t : V.Term} (ht : okT t = true) (ho : t.op = k) (h3 : 3 <= k /\ k <= 16) (hs : ¬ (j3 t.op /\ cmpT (k0 t) (k1 t) = 1)) (h0 : (k0 t).op = 0) : FK k t.w (k0 t) (k1 t) (g5 t) := by
  subst ho
  exact ⟨fun c4 c1 => qem ht h3 hs h0 c4 c1⟩
theorem dO {k : Int} {t : V.Term} (ht : okT t = true) (ho : t.op = k) (h3 : 3 <= k /\ k <= 16) : F9 k t.w (k0 t).w := by
  subst ho
  exact ⟨fun e => (fit_b ht omG).1.symm⟩
theorem qL {k : Int} {t : V.Term} (ht : okT t = true) (ho : t.op = k) (h3 : 3 <= k /\ k <= 16) (hc : y4 t.kids = false) (hs : ¬ (j3 t.op /\ cmpT (k0 t) (k1 t) = 1)) (h0 : (k0 t).op = 0) (h : (k4 k t.w (k0 t) (k1 t)).isSome = true) : p3 t = (k4 k t.w (k0 t) (k1 t)).getD zT := by
  subst ho
  exact qmj ht h3 hc hs h0 h
theorem tH {t : V.Term} (h : ¬ cmpT (k0 t) (k1 t) = 1) : ¬ (j3 t.op /\ cmpT (k0 t) (k1 t) = 1) := fun q => h q.2
theorem sw_3 {t : V.Term} (ho : t.op = 3) (h : cmpT (k0 t) (k1 t) = 1) : x5 t = (oT 3 t.w 0 [k1 t, k0 t], true) := by
  rw [rK (by unfold j3; omega) h, ho]
theorem n1_3 {t : V.Term} (ho : t.op = 3) (hs : ¬ (j3 t.op /\ cmpT (k0 t) (k1 t) = 1)) (hf : (k4 3 t.w (k0 t) (k1 t)).isSome = false) : x5 t = j6 t := qC hs (by rw [ho]; exact hf)
theorem r2_3 {t : V.Term} (ho : t.op = 3) : j6 t = if ((k0 t).op = 0 /\ (k1 t).op = 3 /\ (k0 (k1 t)).op = 0) then (oT 3 t.w 0 [cT t.w (r3 3 t.w (k0 t).n (k0 (k1 t)).n), k1 (k1 t)], true) else (t, false) := by
  unfold j6 j3
  rw [ho]
  simp
theorem sH {t : V.Term} (ho : t.op = 4) : ¬ (j3 t.op /\ cmpT (k0 t) (k1 t) = 1) := by unfold j3; omega
theorem n1_4 {t : V.Term} (ho : t.op = 4) (hs : ¬ (j3 t.op /\ cmpT (k0 t) (k1 t) = 1)) (hf : (k4 4 t.w (k0 t) (k1 t)).isSome = false) : x5 t = j6 t := qC hs (by rw [ho]; exact hf)
theorem r2_4 {t : V.Term} (ho : t.op = 4) : j6 t = if ((k1 t).op = 0 /\ (k1 t).n = 0) then (k0 t, false) else if cmpT (k0 t) (k1 t) = 0 then (cT t.w 0, false) else (t, false) := by
  unfold j6 j3
  rw [ho]
  simp
theorem tC {t : V.Term} (h : ¬ cmpT (k0 t) (k1 t) = 1) : ¬ (j3 t.op /\ cmpT (k0 t) (k1 t) = 1) := fun q => h q.2
theorem sw_5 {t : V.Term} (ho : t.op = 5) (h : cmpT (k0 t) (k1 t) = 1) : x5 t = (oT 5 t.w 0 [k1 t, k0 t], true) := by
  rw [rK (by unfold j3; omega) h, ho]
theorem n1_5 {t : V.Term} (ho : t.op = 5) (hs : ¬ (j3 t.op /\ cmpT (k0 t) (k1 t) = 1)) (hf : (k4 5 t.w (k0 t) (k1 t)).isSome = false) : x5 t = j6 t := qC hs (by rw [ho]; exact hf)
theorem r2_5 {t : V.Term} (ho : t.op = 5) : j6 t = if ((k0 t).op = 0 /\ (k1 t).op = 5 /\ (k0 (k1 t)).op = 0) then (oT 5 t.w 0 [cT t.w (r3 5 t.w (k0 t).n (k0 (k1 t)).n), k1 (k1 t)], true) else (t, false) := by
  unfold j6 j3
  rw [ho]
  simp
theorem vD {t : V.Term} (ho : t.op = 6) : ¬ (j3 t.op /\ cmpT (k0 t) (k1 t) = 1) := by unfold j3; omega
theorem n1_6 {t : V.Term} (ho : t.op = 6) (hs : ¬ (j3 t.op /\ cmpT (k0 t) (k1 t) = 1)) (hf : (k4 6 t.w (k0 t) (k1 t)).isSome = false) : x5 t = j6 t := qC hs (by rw [ho]; exact hf)
theorem r2_6 {t : V.Term} (ho : t.op = 6) : j6 t = (t, false) := by
  unfold j6 j3
  rw [ho]
  simp
theorem iB {t : V.Term} (ho : t.op = 7) : ¬ (j3 t.op /\ cmpT (k0 t) (k1 t) = 1) := by unfold j3; omega
theorem n1_7 {t : V.Term} (ho : t.op = 7) (hs : ¬ (j3 t.op /\ cmpT (k0 t) (k1 t) = 1)) (hf : (k4 7 t.w (k0 t) (k1 t)).isSome = false) : x5 t = j6 t := qC hs (by rw [ho]; exact hf)
theorem r2_7 {t : V.Term} (ho : t.op = 7) : j6 t = (t, false) := by
  unfold j6 j3
  rw [ho]
  simp
theorem uD {t : V.Term} (h : ¬ cmpT (k0 t) (k1 t) = 1) : ¬ (j3 t.op /\ cmpT (k0 t) (k1 t) = 1) := fun q => h q.2
theorem sw_8 {t : V.Term} (ho : t.op = 8) (h : cmpT (k0 t) (k1 t) = 1) : x5 t = (oT 8 t.w 0 [k1 t, k0 t], true) := by
  rw [rK (by unfold j3; omega) h, ho]
theorem n1_8 {t : V.Term} (ho : t.op = 8) (hs : ¬ (j3 t.op /\ cmpT (k0 t) (k1 t) = 1)) (hf : (k4 8 t.w (k0 t) (k1 t)).isSome = false) : x5 t = j6 t := qC hs (by rw [ho]; exact hf)
theorem r2_8 {t : V.Term} (ho : t.op = 8) : j6 t = if cmpT (k0 t) (k1 t) = 0 then (k0 t, false) else if ((k0 t).op = 0 /\ (k1 t).op = 8 /\ (k0 (k1 t)).op = 0) then (oT 8 t.w 0 [cT t.w (r3 8 t.w (k0 t).n (k0 (k1 t)).n), k1 (k1 t)], true) else (t, false) := by
  unfold j6 j3
  rw [ho]
  simp
theorem uE {t : V.Term} (h : ¬ cmpT (k0 t) (k1 t) = 1) : ¬ (j3 t.op /\ cmpT (k0 t) (k1 t) = 1) := fun q => h q.2
theorem sw_9 {t : V.Term} (ho : t.op = 9) (h : cmpT (k0 t) (k1 t) = 1) : x5 t = (oT 9 t.w 0 [k1 t, k0 t], true) := by
  rw [rK (by unfold j3; omega) h, ho]
theorem n1_9 {t : V.Term} (ho : t.op = 9) (hs : ¬ (j3 t.op /\ cmpT (k0 t) (k1 t) = 1)) (hf : (k4 9 t.w (k0 t) (k1 t)).isSome = false) : x5 t = j6 t := qC hs (by rw [ho]; exact hf)
theorem r2_9 {t : V.Term} (ho : t.op = 9) : j6 t = if cmpT (k0 t) (k1 t) = 0 then (k0 t, false) else if ((k0 t).op = 0 /\ (k1 t).op = 9 /\ (k0 (k1 t)).op = 0) then (oT 9 t.w 0 [cT t.w (r3 9 t.w (k0 t).n (k0 (k1 t)).n), k1 (k1 t)], true) else (t, false) := by
  unfold j6 j3
  rw [ho]
  simp
theorem dC {t : V.Term} (h : ¬ cmpT (k0 t) (k1 t) = 1) : ¬ (j3 t.op /\ cmpT (k0 t) (k1 t) = 1) := fun q => h q.2
theorem sw_10 {t : V.Term} (ho : t.op = 10) (h : cmpT (k0 t) (k1 t) = 1) : x5 t = (oT 10 t.w 0 [k1 t, k0 t], true) := by
  rw [rK (by unfold j3; omega) h, ho]
theorem n1_10 {t : V.Term} (ho : t.op = 10) (hs : ¬ (j3 t.op /\ cmpT (k0 t) (k1 t) = 1)) (hf : (k4 10 t.w (k0 t) (k1 t)).isSome = false) : x5 t = j6 t := qC hs (by rw [ho]; exact hf)
theorem r2_10 {t : V.Term} (ho : t.op = 10) : j6 t = if cmpT (k0 t) (k1 t) = 0 then (cT t.w 0, false) else if ((k0 t).op = 0 /\ (k1 t).op = 10 /\ (k0 (k1 t)).op = 0) then (oT 10 t.w 0 [cT t.w (r3 10 t.w (k0 t).n (k0 (k1 t)).n), k1 (k1 t)], true) else (t, false) := by
  unfold j6 j3
  rw [ho]
  simp
theorem iD {t : V.Term} (ho : t.op = 11) : ¬ (j3 t.op /\ cmpT (k0 t) (k1 t) = 1) := by unfold j3; omega
theorem n1_11 {t : V.Term} (ho : t.op = 11) (hs : ¬ (j3 t.op /\ cmpT (k0 t) (k1 t) = 1)) (hf : (k4 11 t.w (k0 t) (k1 t)).isSome = false) : x5 t = j6 t := qC hs (by rw [ho]; exact hf)
theorem r2_11 {t : V.Term} (ho : t.op = 11) : j6 t = if ((k1 t).op = 0 /\ (k1 t).n = 0) then (k0 t, false) else (t, false) := by
  unfold j6 j3
  rw [ho]
  simp
theorem qB {t : V.Term} (ho : t.op = 12) : ¬ (j3 t.op /\ cmpT (k0 t) (k1 t) = 1) := by unfold j3; omega
theorem n1_12 {t : V.Term} (ho : t.op = 12) (hs : ¬ (j3 t.op /\ cmpT (k0 t) (k1 t) = 1)) (hf : (k4 12 t.w (k0 t) (k1 t)).isSome = false) : x5 t = j6 t := qC hs (by rw [ho]; exact hf)
theorem r2_12 {t : V.Term} (ho : t.op = 12) : j6 t = if ((k1 t).op = 0 /\ (k1 t).n = 0) then (k0 t, false) else (t, false) := by
  unfold j6 j3
  rw [ho]
  simp
theorem pB {t : V.Term} (ho : t.op = 13) : ¬ (j3 t.op /\ cmpT (k0 t) (k1 t) = 1) := by unfold j3; omega
theorem n1_13 {t : V.Term} (ho : t.op = 13) (hs : ¬ (j3 t.op /\ cmpT (k0 t) (k1 t) = 1)) (hf : (k4 13 t.w (k0 t) (k1 t)).isSome = false) : x5 t = j6 t := qC hs (by rw [ho]; exact hf)
theorem r2_13 {t : V.Term} (ho : t.op = 13) : j6 t = if ((k1 t).op = 0 /\ (k1 t).n = 0) then (k0 t, false) else (t, false) := by
  unfold j6 j3
  rw [ho]
  simp
theorem uH {t : V.Term} (h : ¬ cmpT (k0 t) (k1 t) = 1) : ¬ (j3 t.op /\ cmpT (k0 t) (k1 t) = 1) := fun q => h q.2
theorem sw_14 {t : V.Term} (ho : t.op = 14) (h : cmpT (k0 t) (k1 t) = 1) : x5 t = (oT 14 t.w 0 [k1 t, k0 t], true) := by
  rw [rK (by unfold j3; omega) h, ho]
theorem n1_14 {t : V.Term} (ho : t.op = 14) (hs : ¬ (j3 t.op /\ cmpT (k0 t) (k1 t) = 1)) (hf : (k4 14 t.w (k0 t) (k1 t)).isSome = false) : x5 t = j6 t := qC hs (by rw [ho]; exact hf)
theorem r2_14 {t : V.Term} (ho : t.op = 14) : j6 t = if cmpT (k0 t) (k1 t) = 0 then (cT 1 1, false) else (t, false) := by
  unfold j6 j3
  rw [ho]
  simp
theorem wE {t : V.Term} (ho : t.op = 15) : ¬ (j3 t.op /\ cmpT (k0 t) (k1 t) = 1) := by unfold j3; omega
theorem n1_15 {t : V.Term} (ho : t.op = 15) (hs : ¬ (j3 t.op /\ cmpT (k0 t) (k1 t) = 1)) (hf : (k4 15 t.w (k0 t) (k1 t)).isSome = false) : x5 t = j6 t := qC hs (by rw [ho]; exact hf)
theorem r2_15 {t : V.Term} (ho : t.op = 15) : j6 t = if ((k1 t).op = 0 /\ (k1 t).n = 0) then (cT 1 0, false) else if cmpT (k0 t) (k1 t) = 0 then (cT t.w 0, false) else (t, false) := by
  unfold j6 j3
  rw [ho]
  simp
theorem cC {t : V.Term} (ho : t.op = 16) : ¬ (j3 t.op /\ cmpT (k0 t) (k1 t) = 1) := by unfold j3; omega
theorem n1_16 {t : V.Term} (ho : t.op = 16) (hs : ¬ (j3 t.op /\ cmpT (k0 t) (k1 t) = 1)) (hf : (k4 16 t.w (k0 t) (k1 t)).isSome = false) : x5 t = j6 t := qC hs (by rw [ho]; exact hf)
theorem r2_16 {t : V.Term} (ho : t.op = 16) : j6 t = if cmpT (k0 t) (k1 t) = 0 then (cT t.w 0, false) else (t, false) := by
  unfold j6 j3
  rw [ho]
  simp
theorem te_of {k : Int} {t : V.Term} (ho : t.op = k) : t = ⟨k, t.w, t.n, t.name, t.kids⟩ := by rw [<- ho]; exact (V.Term.eta t).symm
theorem qn7 {k : Int} {t : V.Term} (ht : okT t = true) (ho : t.op = k) (h3 : 3 <= k /\ k <= 10) (h0 : (k0 t).op = 0) (h1 : (k1 t).op = k) (h2 : (k0 (k1 t)).op = 0) : wordP t.w (r3 k t.w (k0 t).n (k0 (k1 t)).n) = true := by
  have e := fit_b ht omG
  have a1 := r4 ht omG
  have f := fit_b a1 omG
  have w0 := const_w (ok0 ht omG) h0
  have w1 := const_w (ok0 a1 omG) h2
  rw [e.1] at w0
  rw [f.1, e.2] at w1
  exact sO omG w0 w1
theorem pF {a b c : Prop} (h : ¬ a) : ¬ (a /\ b /\ c) := fun q => h q.1
theorem nF {a b c : Prop} (h : ¬ b) : ¬ (a /\ b /\ c) := fun q => h q.2.1
theorem mF {a b c : Prop} (h : ¬ c) : ¬ (a /\ b /\ c) := fun q => h q.2.2
theorem qk2 (t : V.Term) (ih : IHR (g5 t)) (ht : okT t = true) (ho : t.op = 18) (hc : y4 t.kids = false) : CallsV Tryz.prog 166 [.agg [.dat (.i t.op), .dat (.i t.w), .dat (.i t.n), .dat (.str t.name), .dat (.seq .terms t.kids)]] (s4 (p3 t)) := by
  refine oV Tryz.func166 ⟨?_⟩
  repeat' (first | ((with_reducible refine fun (K1 : KT) hK => ?_); refine z2 ⟨?_⟩) | ((with_reducible show K1 _ _); subst hK; conv => whnf) | (with_reducible refine y7 ?_) | (with_reducible exact rfl) | refine p8 ⟨?_⟩ | ((with_reducible show WEach _ _); refine zA rfl ?_ ?_; conv => whnf) | refine st0 ⟨?_⟩ | ((with_reducible refine SplS.mk (fun h => ?_) (fun h => ?_)) <;> first | exact m4 | (subst h; conv => whnf) | (conv => whnf)) | refine s1 ⟨?_⟩ ⟨?_⟩ | refine vE (kJ ..) ⟨?_⟩ | ((with_reducible refine iA (g := 192) ?_); (conv => whnf); refine ⟨_, _, zH (ih := asmR) (hk := ?_) (hm := ?_) .., rfl, zV ?_⟩; rotate_right; conv => whnf))
  all_goals repeat clear hK K1
  all_goals first | ((with_reducible show (_ : Int) <= _); omega) | ((with_reducible show (_ : Int) < _); first | exact o9 ht omG | exact g6 ht omG | exact p6 ht omG | exact o9 (ok0 ht omG) omG | exact g6 (ok0 ht omG) omG | exact p6 (ok0 ht omG) omG | exact gC (ok0 ht omG) omG | exact fC (ok0 ht omG) omG | exact eC (ok0 ht omG) omG | exact o9 (r4 ht omG) omG | exact g6 (r4 ht omG) omG | exact p6 (r4 ht omG) omG | exact gC (r4 ht omG) omG | exact fC (r4 ht omG) omG | exact eC (r4 ht omG) omG | omega) | (have c1 := fun h => nB (r4 ht omG) h; have w1 := d8 (r4 ht omG); have v1 := fun h => d8 (ok0 (r4 ht omG) h); (simp only [V.Term.eta, Int.toNat_zero, Int.toNat_one, k0, k1, kAt] at *; (try simp only [j2 (n := (t.kids.getD 1 K.terms.dflt).n + (t.kids.getD 1 K.terms.dflt).w) omG omG] at *); (try (refine ⟨j4 (t := p3 t) ?_⟩; (try rw [V.Term.eta]))); first | omega | (obtain ⟨y, hr⟩ : ∃ y, u5 t = y := ⟨_, rfl⟩; have hz := hr; unfold u5 uF at hz; simp only [k0, k1, kAt] at hz; (repeat (first | rw [if_pos omG] at hz | rw [if_neg omG] at hz | rw [if_pos (by unfold j3; omega)] at hz | rw [if_neg (by unfold j3; omega)] at hz)); rw [<- hz] at hr; (try rw [ho] at hr); first | exact cA ht omG hc hr | exact ⟨zG (t := p3 t) (cA ht omG hc hr)⟩ | exact (m9 ht omG hr).1 | exact (m9 ht omG hr).2))) | skip
end Vg
