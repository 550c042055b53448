/- The law of ParseTerm. No condition. -/
import Derived.Test.YtcdepophgnlphaaDoorTxtH
import Derived.Test.YtcdepophgnlphaaDoorTxtO
import Derived.Test.YtcdepophgnlphaaDoorTermL
namespace Vg
open Go Go.Proofs
set_option maxRecDepth 100000
set_option maxHeartbeats 40000000
mutual
theorem cntT_le : ∀ t : V.Term, cntT t ≤ 4 * sizeT t
  | ⟨op, w, n, nm, ks⟩ => by
    have := cO ks
    rw [cntT, sizeT]; omega
theorem cO : ∀ l : List V.Term, s1 l ≤ 4 * d3 l
  | [] => Nat.le_refl _
  | t :: ts => by
    have := cntT_le t
    have := cO ts
    rw [s1, d3]; omega
end
theorem rR {s : Bs} (h : (prsT s).2 = true) : 1 + ((s1 (prsT s).1.kids : Nat) : Int) ≤ 1099511627776 := by
  have key : sizeT (prsT s).1 ≤ 240 := by
    rw [prs_I] at h ⊢
    split
    · next q => exact (tC q.2.2.1).2
    · next q => rw [if_neg q] at h; cases h
  have h2 := cO (prsT s).1.kids
  have h3 : sizeT (prsT s).1 = 1 + d3 (prsT s).1.kids := by cases (prsT s).1; rw [sizeT]
  omega
theorem bqq {b c : Bool} (h : (b == c) = false) (e : b = c) : False := by subst e; simp at h
theorem dqq {t u : V.Term} {i : Decidable (t = u)} (h : @decide (t = u) i = false) (e : t = u) : False := (of_decide_eq_false h) e
theorem law_ok {s : ByteArray} (h : ¬ (((ByteArray.size s : Nat) : Int) > 1048576)) : s.size ≤ 1048576 := by omega
theorem law_PT (s : ByteArray) : CallsV Tryd.prog 3 [.dat (.str s)] (.dat (.bool true)) := by
  refine oV Tryd.func3 ⟨?_⟩
  repeat' (first | ((with_reducible refine fun (K1 : KT) hK => ?_); refine i7 ⟨?_⟩) | ((with_reducible show K1 _ _); subst hK; conv => whnf) | (with_reducible exact rfl) | refine f4 ⟨?_⟩ | ((with_reducible refine SplS.mk (fun h => ?_) (fun h => ?_)) <;> first | exact o6 | (subst h; conv => whnf) | (conv => whnf)) | ((with_reducible first | refine p3 (g := 4) ?_ | show Exists _); refine ⟨_, cZ (hs := ?_) .., rfl, ?_⟩; rotate_right; conv => whnf) | ((with_reducible refine fcI (g := 5) ?_); refine ⟨_, _, qbd (hs := ?_) .., rfl, fun res B hRB => ?_⟩; rotate_right; obtain (⟨hq, rfl, rfl⟩ | ⟨hq, rfl, rfl⟩) := hRB <;> conv => whnf) | ((with_reducible first | refine p3 (g := 6) ?_ | show Exists _); refine ⟨_, qa0 .., rfl, ?_⟩; rotate_right; conv => whnf) | ((with_reducible refine d6 (g := 7) ?_); refine ⟨_, _, qbj (h0 := ?_) (h1 := ?_) .., zV ?_⟩; rotate_right; conv => whnf) | ((with_reducible first | refine p3 (g := 7) ?_ | show Exists _); refine ⟨_, qaw .., rfl, ?_⟩; rotate_right; conv => whnf) | ((with_reducible first | refine p3 (g := 8) ?_ | show Exists _); refine ⟨_, qaz (h0 := ?_) (h1 := ?_) .., rfl, ?_⟩; rotate_right; conv => whnf) | ((with_reducible first | refine p3 (g := 8) ?_ | show Exists _); refine ⟨_, qay (h0 := ?_) .., rfl, ?_⟩; rotate_right; conv => whnf) | (intro h; conv => whnf))
  all_goals repeat clear hK K1
  all_goals first | exact rfl | exact law_ok asmR | decide | exact rR hq | exact rR asmR | (exfalso; exact bqq asmR rfl) | (exfalso; exact bqq asmR hq.symm) | (exfalso; exact dqq asmR ((lH hq).trans (V.Term.eta _).symm)) | (exfalso; exact dqq asmR rfl) | (exfalso; simp at h; done) | skip
end Vg
