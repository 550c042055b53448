/- Walks and laws that the proof leans on. No condition. -/
import Derived.Test.YtahdmongckgjcaaGreatDoorTermRB
import Derived.Test.YtahdmongckgjcaaGreatDoorRg
namespace Vg
open Go Go.Proofs
set_option maxRecDepth 100000
set_option maxHeartbeats 40000000
theorem qng (t : V.Term) (ih : IHR (qbz t)) (ht : okT t = true) (ho : t.op = 18) (hc : qcf t.kids = false) : CallsV Tryz.prog 164 [.agg [.dat (.i t.op), .dat (.i t.w), .dat (.i t.n), .dat (.str t.name), .dat (.seq .terms t.kids)]] (qbv (mkT t)) := by
  refine CallsV.of_awp qaf qag Tryz.func164 rfl rfl rfl ?_
  conv => whnf
  repeat' (first | ((with_reducible refine fun (K1 : AX → AState → Prop) hK => ?_); (with_reducible refine qae ?_ ?_); exact rfl; conv => whnf) | (with_reducible refine frG ?_) | ((with_reducible refine fun (K1 : AX → AState → Prop) hK => ?_); (with_reducible refine qa9 ?_ ?_); exact rfl; (conv => whnf); simp only [List.nil_append, List.cons_append]) | ((with_reducible refine qap ?_); conv => whnf) | ((with_reducible refine qau ?_ ?_); exact rfl; conv => whnf) | ((with_reducible refine qak ?_ ?_); exact rfl) | ((with_reducible refine qav ?_)) | ((with_reducible refine qa5 ?_ ?_); exact rfl; conv => whnf) | ((with_reducible refine qaq ?_ ?_); exact rfl) | ((with_reducible refine qa4 ?_ ?_); exact rfl; conv => whnf) | ((with_reducible show WR _ _ _ _ _ _ _ _ _); refine qb7 rfl ?_) | ((with_reducible show WEach _ _); refine qal rfl ?_; conv => whnf) | ((with_reducible show WEach _ _); refine qao rfl ?_ ?_; conv => whnf) | ((with_reducible first | refine Alt.l ?_ | refine fun (K1 : AX → AState → Prop) hK => ?_ | (show K1 _ _; subst hK)); conv => whnf) | (with_reducible exact rfl) | ((with_reducible first | refine sp_T ?_ | refine sp_F ?_); conv => whnf) | ((with_reducible refine qcb (fun h => ?_) (fun h => ?_)) <;> first | contradiction | (subst h; conv => whnf) | (conv => whnf)) | (refine ⟨(rfl : qac _ = true), rfl, ?_⟩; conv => whnf) | (with_reducible refine qbn ?_ ?_) | ((with_reducible refine qad ?_ ?_); conv => whnf) | ((with_reducible show Exists _); refine Exists.intro _ (And.intro (i_sameTerm ..) (And.intro rfl ?_)); rotate_right; conv => whnf) | ((with_reducible refine zcI (g := 190) ?_); (conv => whnf); refine ⟨_, _, qc5 (ih := by with_reducible assumption) (hk := ?_) (hm := ?_) .., rfl, fun res B hRB => ?_⟩; rotate_right; obtain ⟨rfl, rfl⟩ := hRB; conv => whnf))
  all_goals (repeat (clear hK; clear K1))
  all_goals first | ((with_reducible show (_ : Int) ≤ _); omega) | ((with_reducible show (_ : Int) < _); first | exact qdn ht (by omega) | exact qas ht (by omega) | exact qaw ht (by omega) | exact qdn (ok0 ht (by omega)) (by omega) | exact qas (ok0 ht (by omega)) (by omega) | exact qaw (ok0 ht (by omega)) (by omega) | exact qgc (ok0 ht (by omega)) (by omega) | exact qgb (ok0 ht (by omega)) (by omega) | exact qga (ok0 ht (by omega)) (by omega) | exact qdn (ok1 ht (by omega)) (by omega) | exact qas (ok1 ht (by omega)) (by omega) | exact qaw (ok1 ht (by omega)) (by omega) | exact qgc (ok1 ht (by omega)) (by omega) | exact qgb (ok1 ht (by omega)) (by omega) | exact qga (ok1 ht (by omega)) (by omega) | omega) | (have c1 := fun h => qih (ok1 ht (by omega)) h; have w1 := qec (ok1 ht (by omega)); have v1 := fun h => qec (ok0 (ok1 ht (by omega)) h); (simp only [V.Term.eta, Int.toNat_zero, Int.toNat_one, k0, k1, kAt] at *; (try simp only [qah (n := (t.kids.getD 1 K.terms.dflt).n + (t.kids.getD 1 K.terms.dflt).w) (by omega) (by omega)] at *); (try (refine ⟨fr5 (t := mkT t) ?_⟩; (try rw [V.Term.eta]))); first | omega | (obtain ⟨y, hr⟩ : ∃ y, qd1 t = y := ⟨_, rfl⟩; have hz := hr; unfold qd1 redJ at hz; simp only [k0, k1, kAt] at hz; (repeat (first | rw [if_pos (by omega)] at hz | rw [if_neg (by omega)] at hz | rw [if_pos (by unfold qat; omega)] at hz | rw [if_neg (by unfold qat; omega)] at hz)); rw [← hz] at hr; (try rw [ho] at hr); first | exact qjd ht (by omega) hc hr | exact ⟨fr5n (t := mkT t) (qjd ht (by omega) hc hr)⟩ | exact (qcr ht (by omega) hr).1 | exact (qcr ht (by omega) hr).2))) | skip
end Vg

namespace Vg
open Go Go.Proofs
set_option maxRecDepth 100000
set_option maxHeartbeats 40000000
/-! ### a constant as the first kid -/
abbrev zT : V.Term := ⟨0, 0, 0, ByteArray.empty, []⟩
def qai (op w : Int) (a b : V.Term) : Option V.Term :=
  if (op = 3 ∧ a.n = 0) ∨ (op = 5 ∧ a.n = 1) ∨ (op = 8 ∧ a.n = onW a.w) ∨ (op = 9 ∧ a.n = 0) ∨ (op = 10 ∧ a.n = 0) ∨ (op = 14 ∧ a.w = 1 ∧ a.n = 1) then some b
  else if (op = 5 ∧ a.n = 0) ∨ (op = 8 ∧ a.n = 0) then some (cT w 0)
  else if op = 9 ∧ a.n = onW a.w then some (cT w (onW a.w))
  else if (op = 10 ∧ a.n = onW a.w) ∨ (op = 14 ∧ a.w = 1 ∧ a.n = 0) then some (mkT (oT 1 w 0 [b]))
  else none
structure FirstNo (op : Int) (a : V.Term) : Prop where
  n1 : ¬ ((op = 3 ∧ a.n = 0) ∨ (op = 5 ∧ a.n = 1) ∨ (op = 8 ∧ a.n = onW a.w) ∨ (op = 9 ∧ a.n = 0) ∨ (op = 10 ∧ a.n = 0) ∨ (op = 14 ∧ a.w = 1 ∧ a.n = 1))
  n2 : ¬ ((op = 5 ∧ a.n = 0) ∨ (op = 8 ∧ a.n = 0))
  n3 : ¬ (op = 9 ∧ a.n = onW a.w)
  n4 : ¬ ((op = 10 ∧ a.n = onW a.w) ∨ (op = 14 ∧ a.w = 1 ∧ a.n = 0))
theorem first_no {op w : Int} {a b : V.Term} (h : (qai op w a b).isSome = false) : FirstNo op a := by
  unfold qai at h
  by_cases c1 : ((op = 3 ∧ a.n = 0) ∨ (op = 5 ∧ a.n = 1) ∨ (op = 8 ∧ a.n = onW a.w) ∨ (op = 9 ∧ a.n = 0) ∨ (op = 10 ∧ a.n = 0) ∨ (op = 14 ∧ a.w = 1 ∧ a.n = 1))
  · rw [if_pos c1] at h; cases h
  rw [if_neg c1] at h
  by_cases c2 : ((op = 5 ∧ a.n = 0) ∨ (op = 8 ∧ a.n = 0))
  · rw [if_pos c2] at h; cases h
  rw [if_neg c2] at h
  by_cases c3 : (op = 9 ∧ a.n = onW a.w)
  · rw [if_pos c3] at h; cases h
  rw [if_neg c3] at h
  by_cases c4 : ((op = 10 ∧ a.n = onW a.w) ∨ (op = 14 ∧ a.w = 1 ∧ a.n = 0))
  · rw [if_pos c4] at h; cases h
  exact ⟨c1, c2, c3, c4⟩
theorem first_is {t : V.Term} (ht : okT t = true) (ho : 3 ≤ t.op ∧ t.op ≤ 16) (hc : qcf t.kids = false) (hs : ¬ (qat t.op ∧ cmpT (k0 t) (k1 t) = 1)) (h0 : (k0 t).op = 0) (h : (qai t.op t.w (k0 t) (k1 t)).isSome = true) : mkT t = (qai t.op t.w (k0 t) (k1 t)).getD zT := by
  have hb : qd1 t = qco t := by unfold qd1; rw [if_neg (by omega), if_neg (by omega), if_neg (by omega), if_neg (by omega), if_neg (by omega)]
  unfold qai at h ⊢
  by_cases c1 : ((t.op = 3 ∧ (k0 t).n = 0) ∨ (t.op = 5 ∧ (k0 t).n = 1) ∨ (t.op = 8 ∧ (k0 t).n = onW (k0 t).w) ∨ (t.op = 9 ∧ (k0 t).n = 0) ∨ (t.op = 10 ∧ (k0 t).n = 0) ∨ (t.op = 14 ∧ (k0 t).w = 1 ∧ (k0 t).n = 1))
  · have hr : qd1 t = (k1 t, false) := by rw [hb]; unfold qco; rw [if_neg hs, if_pos ⟨h0, c1⟩]
    rw [qjd ht (by omega) hc hr, if_pos c1]; rfl
  rw [if_neg c1] at h ⊢
  by_cases c2 : ((t.op = 5 ∧ (k0 t).n = 0) ∨ (t.op = 8 ∧ (k0 t).n = 0))
  · have hr : qd1 t = (cT t.w 0, false) := by rw [hb]; unfold qco; rw [if_neg hs, if_neg (fun k => c1 k.2), if_pos ⟨h0, c2⟩]
    rw [qjd ht (by omega) hc hr, if_pos c2]; rfl
  rw [if_neg c2] at h ⊢
  by_cases c3 : (t.op = 9 ∧ (k0 t).n = onW (k0 t).w)
  · have hr : qd1 t = (cT t.w (onW (k0 t).w), false) := by rw [hb]; unfold qco; rw [if_neg hs, if_neg (fun k => c1 k.2), if_neg (fun k => c2 k.2), if_pos ⟨h0, c3⟩]
    rw [qjd ht (by omega) hc hr, if_pos c3]; rfl
  rw [if_neg c3] at h ⊢
  by_cases c4 : ((t.op = 10 ∧ (k0 t).n = onW (k0 t).w) ∨ (t.op = 14 ∧ (k0 t).w = 1 ∧ (k0 t).n = 0))
  · have hr : qd1 t = (oT 1 t.w 0 [k1 t], true) := by rw [hb]; unfold qco; rw [if_neg hs, if_neg (fun k => c1 k.2), if_neg (fun k => c2 k.2), if_neg (fun k => c3 k.2), if_pos ⟨h0, c4⟩]
    rw [qjd ht (by omega) hc hr, if_pos c4]; rfl
  rw [if_neg c4] at h
  cases h
theorem first_ok {t : V.Term} (ht : okT t = true) (ho : 3 ≤ t.op ∧ t.op ≤ 16) (hs : ¬ (qat t.op ∧ cmpT (k0 t) (k1 t) = 1)) (h0 : (k0 t).op = 0) (c4 : (t.op = 10 ∧ (k0 t).n = onW (k0 t).w) ∨ (t.op = 14 ∧ (k0 t).w = 1 ∧ (k0 t).n = 0)) (c1 : ¬ (t.op = 10 ∧ (k0 t).n = 0)) :
    okT (oT 1 t.w 0 [k1 t]) = true ∧ qbz (oT 1 t.w 0 [k1 t]) < qbz t := by
  have hb : qd1 t = qco t := by unfold qd1; rw [if_neg (by omega), if_neg (by omega), if_neg (by omega), if_neg (by omega), if_neg (by omega)]
  refine qcr ht (by omega) ?_
  rw [hb]
  unfold qco
  rw [if_neg hs, if_neg (by omega), if_neg (by omega), if_neg (by omega), if_pos ⟨h0, c4⟩]
theorem on_word {w : Int} (h : inP w 1 16 = true) : wordP w (onW w) = true := by
  have F := wf h
  have h3 := F.s3
  exact qde h (by show 0 ≤ (2 : Int) ^ w.toNat - 1; omega) (by show (2 : Int) ^ w.toNat - 1 < _; omega)
theorem qo1 {B : List Blk} {X : AV} {op w : Int} {a b : V.Term} (h : ∀ y, qai op w a b = y → qio B (.dat (.bool y.isSome)) X) : qio B (.dat (.bool (qai op w a b).isSome)) X := h _ rfl
theorem ft_y {B : List Blk} {X : AV} {op w : Int} {a b : V.Term} (h : ∀ y, qai op w a b = y → qio B (qbv (y.getD zT)) X) : qio B (qbv ((qai op w a b).getD zT)) X := h _ rfl
theorem ql8 (op w : Int) (a b : V.Term) (m : Nat) (ih : IHR m) (ha : inP a.w 1 16 = true) (hw : inP w 1 16 = true) (h9 : op = 9 → w = a.w) (hk : (op = 10 ∧ a.n = onW a.w) ∨ (op = 14 ∧ a.w = 1 ∧ a.n = 0) → ¬ (op = 10 ∧ a.n = 0) → okT (oT 1 w 0 [b]) = true ∧ qbz (oT 1 w 0 [b]) < m) : CallsV Tryz.prog 193 [.dat (.i op), .dat (.i w), .agg [.dat (.i a.op), .dat (.i a.w), .dat (.i a.n), .dat (.str a.name), .dat (.seq .terms a.kids)], .agg [.dat (.i b.op), .dat (.i b.w), .dat (.i b.n), .dat (.str b.name), .dat (.seq .terms b.kids)]] (.tup [qbv ((qai op w a b).getD zT), .dat (.bool (qai op w a b).isSome)]) := by
  refine CallsV.of_awp qaf qag Tryz.func193 rfl rfl rfl ?_
  conv => whnf
  repeat' (first | ((with_reducible refine fun (K1 : AX → AState → Prop) hK => ?_); (with_reducible refine qae ?_ ?_); exact rfl; conv => whnf) | ((with_reducible first | refine Alt.l ?_ | refine fun (K1 : AX → AState → Prop) hK => ?_ | (show K1 _ _; subst hK) | refine sp_T ?_ | refine sp_F ?_); conv => whnf) | ((with_reducible refine qbq ?_ ?_); decide; conv => whnf) | ((with_reducible refine sp_eT ?_); conv => whnf) | ((with_reducible refine qcb (fun h => ?_) (fun h => ?_)) <;> first | contradiction | (subst h; conv => whnf) | (conv => whnf)) | (refine ⟨(rfl : qac _ = true), rfl, ?_⟩; conv => whnf) | ((with_reducible refine qad ?_ ?_); conv => whnf) | ((first | ((with_reducible refine pcI (g := 212) ?_); refine ⟨_, i_onesOf (hw := ?_) .., rfl, ?_⟩) | ((with_reducible refine pcI (g := 105) ?_); refine ⟨_, i_ConstTerm (h := ?_) .., rfl, ?_⟩)); rotate_right; conv => whnf) | ((with_reducible refine zcI (g := 190) ?_); (conv => whnf); refine ⟨_, _, qc5 (ih := by with_reducible assumption) (hk := ?_) (hm := ?_) .., rfl, fun res B hRB => ?_⟩; rotate_right; obtain ⟨rfl, rfl⟩ := hRB; conv => whnf))
  all_goals (repeat (clear hK; clear K1))
  all_goals first | exact True.intro | exact ha | exact zero_word hw | (have e := h9 rfl; rw [e]; exact on_word ha) | (rw [V.Term.eta]; first | exact (hk (.inl ⟨rfl, by with_reducible assumption⟩) (by omega)).1 | exact (hk (.inl ⟨rfl, by with_reducible assumption⟩) (by omega)).2 | exact (hk (.inr ⟨rfl, by with_reducible assumption, by with_reducible assumption⟩) (by omega)).1 | exact (hk (.inr ⟨rfl, by with_reducible assumption, by with_reducible assumption⟩) (by omega)).2) | ((try simp only [V.Term.eta, onW] at *); first | ((first | refine qo1 fun y hz => ?_ | refine ft_y fun y hz => ?_); clear hk h9; unfold qai onW at hz; (repeat (first | rw [if_pos (by omega)] at hz | rw [if_neg (by omega)] at hz)); subst hz; first | exact rfl | exact fr5M (V.Term.eta _).symm | exact fr5M rfl | exact fr5Mn rfl)) | skip
end Vg

namespace Vg
open Go Go.Proofs
def qbr (t : V.Term) : V.Term × Bool :=
  if (k1 t).op = 0 ∧ (k1 t).n = 0 ∧ (t.op = 4 ∨ t.op = 11 ∨ t.op = 12 ∨ t.op = 13) then (k0 t, false)
  else if (k1 t).op = 0 ∧ (k1 t).n = 0 ∧ t.op = 15 then (cT 1 0, false)
  else if cmpT (k0 t) (k1 t) = 0 ∧ (t.op = 8 ∨ t.op = 9) then (k0 t, false)
  else if cmpT (k0 t) (k1 t) = 0 ∧ (t.op = 4 ∨ t.op = 10 ∨ t.op = 15 ∨ t.op = 16) then (cT t.w 0, false)
  else if cmpT (k0 t) (k1 t) = 0 ∧ t.op = 14 then (cT 1 1, false)
  else if (qat t.op ∧ t.op ≠ 14) ∧ (k0 t).op = 0 ∧ (k1 t).op = t.op ∧ (k0 (k1 t)).op = 0 then (oT t.op t.w 0 [cT t.w (qba t.op t.w (k0 t).n (k0 (k1 t)).n), k1 (k1 t)], true)
  else (t, false)
theorem redS_b {t : V.Term} (ho : 3 ≤ t.op ∧ t.op ≤ 16) : qd1 t = qco t := by
  unfold qd1
  rw [if_neg (by omega), if_neg (by omega), if_neg (by omega), if_neg (by omega), if_neg (by omega)]
theorem qhk {t : V.Term} (hs : qat t.op) (hc : cmpT (k0 t) (k1 t) = 1) : qco t = (oT t.op t.w 0 [k1 t, k0 t], true) := by
  unfold qco
  rw [if_pos ⟨hs, hc⟩]
theorem qb2 {t : V.Term} (hs : ¬ (qat t.op ∧ cmpT (k0 t) (k1 t) = 1)) (h0 : ¬ (k0 t).op = 0) : qco t = qbr t := by
  unfold qco qbr
  rw [if_neg hs, if_neg (fun q => h0 q.1), if_neg (fun q => h0 q.1), if_neg (fun q => h0 q.1), if_neg (fun q => h0 q.1)]
theorem qd2 {t : V.Term} (hs : ¬ (qat t.op ∧ cmpT (k0 t) (k1 t) = 1)) (hf : (qai t.op t.w (k0 t) (k1 t)).isSome = false) : qco t = qbr t := by
  have f := first_no hf
  unfold qco qbr
  rw [if_neg hs, if_neg (fun q => f.n1 q.2), if_neg (fun q => f.n2 q.2), if_neg (fun q => f.n3 q.2), if_neg (fun q => f.n4 q.2)]
theorem qb8 {t x : V.Term} (ht : okT t = true) (ho : 3 ≤ t.op ∧ t.op ≤ 16) (hc : qcf t.kids = false) (hr : qco t = (x, false)) : mkT t = x := by
  have := qjd ht (by omega) hc ((redS_b ho).trans hr)
  rwa [if_neg Bool.false_ne_true] at this
theorem qei {t x : V.Term} (ht : okT t = true) (ho : 3 ≤ t.op ∧ t.op ≤ 16) (hc : qcf t.kids = false) (hr : qco t = (x, true)) : mkT t = mkT x := by
  have := qjd ht (by omega) hc ((redS_b ho).trans hr)
  rwa [if_pos rfl] at this
theorem qcl {t x : V.Term} (ht : okT t = true) (ho : 3 ≤ t.op ∧ t.op ≤ 16) (hr : qco t = (x, true)) : okT x = true ∧ qbz x < qbz t := qcr ht (by omega) ((redS_b ho).trans hr)
structure FK (op w : Int) (a b : V.Term) (m : Nat) : Prop where
  h : (op = 10 ∧ a.n = onW a.w) ∨ (op = 14 ∧ a.w = 1 ∧ a.n = 0) → ¬ (op = 10 ∧ a.n = 0) → okT (oT 1 w 0 [b]) = true ∧ qbz (oT 1 w 0 [b]) < m
structure F9 (op w w' : Int) : Prop where
  h : op = 9 → w = w'
theorem qc6 (op w : Int) (a b : V.Term) (m : Nat) (ih : IHR m) (ha : inP a.w 1 16 = true) (hw : inP w 1 16 = true) (h9 : F9 op w a.w) (hk : FK op w a b m) :
    CallsV Tryz.prog 193 [.dat (.i op), .dat (.i w), .agg [.dat (.i a.op), .dat (.i a.w), .dat (.i a.n), .dat (.str a.name), .dat (.seq .terms a.kids)], .agg [.dat (.i b.op), .dat (.i b.w), .dat (.i b.n), .dat (.str b.name), .dat (.seq .terms b.kids)]]
      (.tup [qbv ((qai op w a b).getD zT), .dat (.bool (qai op w a b).isSome)]) := ql8 op w a b m ih ha hw h9.h hk.h
theorem qg5 {k : Int} {t : V.Term} (ht : okT t = true) (ho : t.op = k) (h3 : 3 ≤ k ∧ k ≤ 16) (hs : ¬ (qat t.op ∧ cmpT (k0 t) (k1 t) = 1)) (h0 : (k0 t).op = 0) : FK k t.w (k0 t) (k1 t) (qbz t) := by
  subst ho
  exact ⟨fun c4 c1 => first_ok ht h3 hs h0 c4 c1⟩
theorem qg8 {k : Int} {t : V.Term} (ht : okT t = true) (ho : t.op = k) (h3 : 3 ≤ k ∧ k ≤ 16) : F9 k t.w (k0 t).w := by
  subst ho
  exact ⟨fun e => (fit_b ht (by omega)).1.symm⟩
theorem qgg {k : Int} {t : V.Term} (ht : okT t = true) (ho : t.op = k) (h3 : 3 ≤ k ∧ k ≤ 16) (hc : qcf t.kids = false) (hs : ¬ (qat t.op ∧ cmpT (k0 t) (k1 t) = 1)) (h0 : (k0 t).op = 0) (h : (qai k t.w (k0 t) (k1 t)).isSome = true) : mkT t = (qai k t.w (k0 t) (k1 t)).getD zT := by
  subst ho
  exact first_is ht h3 hc hs h0 h
theorem ns_3 {t : V.Term} (h : ¬ cmpT (k0 t) (k1 t) = 1) : ¬ (qat t.op ∧ cmpT (k0 t) (k1 t) = 1) := fun q => h q.2
theorem sw_3 {t : V.Term} (ho : t.op = 3) (h : cmpT (k0 t) (k1 t) = 1) : qco t = (oT 3 t.w 0 [k1 t, k0 t], true) := by
  rw [qhk (by unfold qat; omega) h, ho]
theorem n1_3 {t : V.Term} (ho : t.op = 3) (hs : ¬ (qat t.op ∧ cmpT (k0 t) (k1 t) = 1)) (hf : (qai 3 t.w (k0 t) (k1 t)).isSome = false) : qco t = qbr t := qd2 hs (by rw [ho]; exact hf)
theorem r2_3 {t : V.Term} (ho : t.op = 3) : qbr t = if ((k0 t).op = 0 ∧ (k1 t).op = 3 ∧ (k0 (k1 t)).op = 0) then (oT 3 t.w 0 [cT t.w (qba 3 t.w (k0 t).n (k0 (k1 t)).n), k1 (k1 t)], true) else (t, false) := by
  unfold qbr qat
  rw [ho]
  simp
theorem ns_4 {t : V.Term} (ho : t.op = 4) : ¬ (qat t.op ∧ cmpT (k0 t) (k1 t) = 1) := by unfold qat; omega
theorem n1_4 {t : V.Term} (ho : t.op = 4) (hs : ¬ (qat t.op ∧ cmpT (k0 t) (k1 t) = 1)) (hf : (qai 4 t.w (k0 t) (k1 t)).isSome = false) : qco t = qbr t := qd2 hs (by rw [ho]; exact hf)
theorem r2_4 {t : V.Term} (ho : t.op = 4) : qbr t = if ((k1 t).op = 0 ∧ (k1 t).n = 0) then (k0 t, false) else if cmpT (k0 t) (k1 t) = 0 then (cT t.w 0, false) else (t, false) := by
  unfold qbr qat
  rw [ho]
  simp
theorem ns_5 {t : V.Term} (h : ¬ cmpT (k0 t) (k1 t) = 1) : ¬ (qat t.op ∧ cmpT (k0 t) (k1 t) = 1) := fun q => h q.2
theorem sw_5 {t : V.Term} (ho : t.op = 5) (h : cmpT (k0 t) (k1 t) = 1) : qco t = (oT 5 t.w 0 [k1 t, k0 t], true) := by
  rw [qhk (by unfold qat; omega) h, ho]
theorem n1_5 {t : V.Term} (ho : t.op = 5) (hs : ¬ (qat t.op ∧ cmpT (k0 t) (k1 t) = 1)) (hf : (qai 5 t.w (k0 t) (k1 t)).isSome = false) : qco t = qbr t := qd2 hs (by rw [ho]; exact hf)
theorem r2_5 {t : V.Term} (ho : t.op = 5) : qbr t = if ((k0 t).op = 0 ∧ (k1 t).op = 5 ∧ (k0 (k1 t)).op = 0) then (oT 5 t.w 0 [cT t.w (qba 5 t.w (k0 t).n (k0 (k1 t)).n), k1 (k1 t)], true) else (t, false) := by
  unfold qbr qat
  rw [ho]
  simp
theorem ns_6 {t : V.Term} (ho : t.op = 6) : ¬ (qat t.op ∧ cmpT (k0 t) (k1 t) = 1) := by unfold qat; omega
theorem n1_6 {t : V.Term} (ho : t.op = 6) (hs : ¬ (qat t.op ∧ cmpT (k0 t) (k1 t) = 1)) (hf : (qai 6 t.w (k0 t) (k1 t)).isSome = false) : qco t = qbr t := qd2 hs (by rw [ho]; exact hf)
theorem r2_6 {t : V.Term} (ho : t.op = 6) : qbr t = (t, false) := by
  unfold qbr qat
  rw [ho]
  simp
theorem ns_7 {t : V.Term} (ho : t.op = 7) : ¬ (qat t.op ∧ cmpT (k0 t) (k1 t) = 1) := by unfold qat; omega
theorem n1_7 {t : V.Term} (ho : t.op = 7) (hs : ¬ (qat t.op ∧ cmpT (k0 t) (k1 t) = 1)) (hf : (qai 7 t.w (k0 t) (k1 t)).isSome = false) : qco t = qbr t := qd2 hs (by rw [ho]; exact hf)
theorem r2_7 {t : V.Term} (ho : t.op = 7) : qbr t = (t, false) := by
  unfold qbr qat
  rw [ho]
  simp
theorem ns_8 {t : V.Term} (h : ¬ cmpT (k0 t) (k1 t) = 1) : ¬ (qat t.op ∧ cmpT (k0 t) (k1 t) = 1) := fun q => h q.2
theorem sw_8 {t : V.Term} (ho : t.op = 8) (h : cmpT (k0 t) (k1 t) = 1) : qco t = (oT 8 t.w 0 [k1 t, k0 t], true) := by
  rw [qhk (by unfold qat; omega) h, ho]
theorem n1_8 {t : V.Term} (ho : t.op = 8) (hs : ¬ (qat t.op ∧ cmpT (k0 t) (k1 t) = 1)) (hf : (qai 8 t.w (k0 t) (k1 t)).isSome = false) : qco t = qbr t := qd2 hs (by rw [ho]; exact hf)
theorem r2_8 {t : V.Term} (ho : t.op = 8) : qbr t = if cmpT (k0 t) (k1 t) = 0 then (k0 t, false) else if ((k0 t).op = 0 ∧ (k1 t).op = 8 ∧ (k0 (k1 t)).op = 0) then (oT 8 t.w 0 [cT t.w (qba 8 t.w (k0 t).n (k0 (k1 t)).n), k1 (k1 t)], true) else (t, false) := by
  unfold qbr qat
  rw [ho]
  simp
theorem ns_9 {t : V.Term} (h : ¬ cmpT (k0 t) (k1 t) = 1) : ¬ (qat t.op ∧ cmpT (k0 t) (k1 t) = 1) := fun q => h q.2
theorem sw_9 {t : V.Term} (ho : t.op = 9) (h : cmpT (k0 t) (k1 t) = 1) : qco t = (oT 9 t.w 0 [k1 t, k0 t], true) := by
  rw [qhk (by unfold qat; omega) h, ho]
theorem n1_9 {t : V.Term} (ho : t.op = 9) (hs : ¬ (qat t.op ∧ cmpT (k0 t) (k1 t) = 1)) (hf : (qai 9 t.w (k0 t) (k1 t)).isSome = false) : qco t = qbr t := qd2 hs (by rw [ho]; exact hf)
theorem r2_9 {t : V.Term} (ho : t.op = 9) : qbr t = if cmpT (k0 t) (k1 t) = 0 then (k0 t, false) else if ((k0 t).op = 0 ∧ (k1 t).op = 9 ∧ (k0 (k1 t)).op = 0) then (oT 9 t.w 0 [cT t.w (qba 9 t.w (k0 t).n (k0 (k1 t)).n), k1 (k1 t)], true) else (t, false) := by
  unfold qbr qat
  rw [ho]
  simp
theorem qm6 {t : V.Term} (h : ¬ cmpT (k0 t) (k1 t) = 1) : ¬ (qat t.op ∧ cmpT (k0 t) (k1 t) = 1) := fun q => h q.2
theorem sw_10 {t : V.Term} (ho : t.op = 10) (h : cmpT (k0 t) (k1 t) = 1) : qco t = (oT 10 t.w 0 [k1 t, k0 t], true) := by
  rw [qhk (by unfold qat; omega) h, ho]
theorem n1_10 {t : V.Term} (ho : t.op = 10) (hs : ¬ (qat t.op ∧ cmpT (k0 t) (k1 t) = 1)) (hf : (qai 10 t.w (k0 t) (k1 t)).isSome = false) : qco t = qbr t := qd2 hs (by rw [ho]; exact hf)
theorem r2_10 {t : V.Term} (ho : t.op = 10) : qbr t = if cmpT (k0 t) (k1 t) = 0 then (cT t.w 0, false) else if ((k0 t).op = 0 ∧ (k1 t).op = 10 ∧ (k0 (k1 t)).op = 0) then (oT 10 t.w 0 [cT t.w (qba 10 t.w (k0 t).n (k0 (k1 t)).n), k1 (k1 t)], true) else (t, false) := by
  unfold qbr qat
  rw [ho]
  simp
theorem qm5 {t : V.Term} (ho : t.op = 11) : ¬ (qat t.op ∧ cmpT (k0 t) (k1 t) = 1) := by unfold qat; omega
theorem n1_11 {t : V.Term} (ho : t.op = 11) (hs : ¬ (qat t.op ∧ cmpT (k0 t) (k1 t) = 1)) (hf : (qai 11 t.w (k0 t) (k1 t)).isSome = false) : qco t = qbr t := qd2 hs (by rw [ho]; exact hf)
theorem r2_11 {t : V.Term} (ho : t.op = 11) : qbr t = if ((k1 t).op = 0 ∧ (k1 t).n = 0) then (k0 t, false) else (t, false) := by
  unfold qbr qat
  rw [ho]
  simp
theorem qm4 {t : V.Term} (ho : t.op = 12) : ¬ (qat t.op ∧ cmpT (k0 t) (k1 t) = 1) := by unfold qat; omega
theorem n1_12 {t : V.Term} (ho : t.op = 12) (hs : ¬ (qat t.op ∧ cmpT (k0 t) (k1 t) = 1)) (hf : (qai 12 t.w (k0 t) (k1 t)).isSome = false) : qco t = qbr t := qd2 hs (by rw [ho]; exact hf)
theorem r2_12 {t : V.Term} (ho : t.op = 12) : qbr t = if ((k1 t).op = 0 ∧ (k1 t).n = 0) then (k0 t, false) else (t, false) := by
  unfold qbr qat
  rw [ho]
  simp
theorem qm3 {t : V.Term} (ho : t.op = 13) : ¬ (qat t.op ∧ cmpT (k0 t) (k1 t) = 1) := by unfold qat; omega
theorem n1_13 {t : V.Term} (ho : t.op = 13) (hs : ¬ (qat t.op ∧ cmpT (k0 t) (k1 t) = 1)) (hf : (qai 13 t.w (k0 t) (k1 t)).isSome = false) : qco t = qbr t := qd2 hs (by rw [ho]; exact hf)
theorem r2_13 {t : V.Term} (ho : t.op = 13) : qbr t = if ((k1 t).op = 0 ∧ (k1 t).n = 0) then (k0 t, false) else (t, false) := by
  unfold qbr qat
  rw [ho]
  simp
theorem qm2 {t : V.Term} (h : ¬ cmpT (k0 t) (k1 t) = 1) : ¬ (qat t.op ∧ cmpT (k0 t) (k1 t) = 1) := fun q => h q.2
theorem sw_14 {t : V.Term} (ho : t.op = 14) (h : cmpT (k0 t) (k1 t) = 1) : qco t = (oT 14 t.w 0 [k1 t, k0 t], true) := by
  rw [qhk (by unfold qat; omega) h, ho]
theorem n1_14 {t : V.Term} (ho : t.op = 14) (hs : ¬ (qat t.op ∧ cmpT (k0 t) (k1 t) = 1)) (hf : (qai 14 t.w (k0 t) (k1 t)).isSome = false) : qco t = qbr t := qd2 hs (by rw [ho]; exact hf)
theorem r2_14 {t : V.Term} (ho : t.op = 14) : qbr t = if cmpT (k0 t) (k1 t) = 0 then (cT 1 1, false) else (t, false) := by
  unfold qbr qat
  rw [ho]
  simp
theorem qm1 {t : V.Term} (ho : t.op = 15) : ¬ (qat t.op ∧ cmpT (k0 t) (k1 t) = 1) := by unfold qat; omega
theorem n1_15 {t : V.Term} (ho : t.op = 15) (hs : ¬ (qat t.op ∧ cmpT (k0 t) (k1 t) = 1)) (hf : (qai 15 t.w (k0 t) (k1 t)).isSome = false) : qco t = qbr t := qd2 hs (by rw [ho]; exact hf)
theorem r2_15 {t : V.Term} (ho : t.op = 15) : qbr t = if ((k1 t).op = 0 ∧ (k1 t).n = 0) then (cT 1 0, false) else if cmpT (k0 t) (k1 t) = 0 then (cT t.w 0, false) else (t, false) := by
  unfold qbr qat
  rw [ho]
  simp
theorem qm0 {t : V.Term} (ho : t.op = 16) : ¬ (qat t.op ∧ cmpT (k0 t) (k1 t) = 1) := by unfold qat; omega
theorem n1_16 {t : V.Term} (ho : t.op = 16) (hs : ¬ (qat t.op ∧ cmpT (k0 t) (k1 t) = 1)) (hf : (qai 16 t.w (k0 t) (k1 t)).isSome = false) : qco t = qbr t := qd2 hs (by rw [ho]; exact hf)
theorem r2_16 {t : V.Term} (ho : t.op = 16) : qbr t = if cmpT (k0 t) (k1 t) = 0 then (cT t.w 0, false) else (t, false) := by
  unfold qbr qat
  rw [ho]
  simp
theorem te_of {k : Int} {t : V.Term} (ho : t.op = k) : t = ⟨k, t.w, t.n, t.name, t.kids⟩ := by rw [← ho]; exact (V.Term.eta t).symm
theorem wd_1 {k : Int} {t : V.Term} (ht : okT t = true) (ho : t.op = k) (h3 : 3 ≤ k ∧ k ≤ 10) (h0 : (k0 t).op = 0) (h1 : (k1 t).op = k) (h2 : (k0 (k1 t)).op = 0) : wordP t.w (qba k t.w (k0 t).n (k0 (k1 t)).n) = true := by
  have e := fit_b ht (by omega)
  have a1 := ok1 ht (by omega)
  have f := fit_b a1 (by omega)
  have w0 := qey (ok0 ht (by omega)) h0
  have w1 := qey (ok0 a1 (by omega)) h2
  rw [e.1] at w0
  rw [f.1, e.2] at w1
  exact qgk (by omega) w0 w1
theorem qb5 {a b c : Prop} (h : ¬ a) : ¬ (a ∧ b ∧ c) := fun q => h q.1
theorem qb4 {a b c : Prop} (h : ¬ b) : ¬ (a ∧ b ∧ c) := fun q => h q.2.1
theorem qb3 {a b c : Prop} (h : ¬ c) : ¬ (a ∧ b ∧ c) := fun q => h q.2.2
end Vg
