/- The program's ParseTerm: contract. Condition: the text is no longer than the law lets through. -/
import Derived.Test.YtcdepophgnlphaaDoorTxtL
import Derived.Test.YtcdepophgnlphaaDoorTxtN
namespace Vg
open Go Go.Proofs
set_option maxRecDepth 100000
set_option maxHeartbeats 40000000
section
variable {s : ByteArray}
noncomputable def j5 (s : ByteArray) : RdT := o0 240 0 s.data.toList
theorem eG (s : ByteArray) : prsT s.data.toList = if (j5 s).1.2 = true ∧ (j5 s).2.2 = [] ∧ d7 (j5 s).1.1 = true ∧ fmtL (j5 s).1.1 = s.data.toList then ((j5 s).1.1, true) else (r4, false) := prs_I s.data.toList
theorem pt_n (h : (j5 s).1.2 = false) : prsT s.data.toList = (r4, false) := by rw [eG, if_neg (fun q => by have := q.1; rw [h] at this; cases this)]
theorem pt_p (h : ¬ u0 s (j5 s).2.2 = (s.size : Int)) : prsT s.data.toList = (r4, false) := by
  rw [eG, if_neg (fun q => h (by rw [q.2.1]; unfold u0; rw [List.length_nil]; omega))]
theorem pt_t {op w n : Int} {nm : ByteArray} {ks : List V.Term} (e : (⟨op, w, n, nm, ks⟩ : V.Term) = (j5 s).1.1) (h : d7 ⟨op, w, n, nm, ks⟩ = false) : prsT s.data.toList = (r4, false) := by
  rw [e] at h
  rw [eG, if_neg (fun q => by have := q.2.2.1; rw [h] at this; cases this)]
theorem pt_f {op w n : Int} {nm : ByteArray} {ks : List V.Term} (e : (⟨op, w, n, nm, ks⟩ : V.Term) = (j5 s).1.1) (h : ((iH ⟨op, w, n, nm, ks⟩).toList == s.toList) = false) : prsT s.data.toList = (r4, false) := by
  rw [e] at h
  rw [eG, if_neg (fun q => str_ne h (by rw [fx_y q.2.2.1, q.2.2.2]; rfl))]
theorem pt_y (hs : s.size ≤ 1048576) {op w n : Int} {nm : ByteArray} {ks : List V.Term} (e : (⟨op, w, n, nm, ks⟩ : V.Term) = (j5 s).1.1) (h1 : (j5 s).1.2 = true) (h2 : u0 s (j5 s).2.2 = (s.size : Int)) (h3 : d7 ⟨op, w, n, nm, ks⟩ = true)
    (h : ((iH ⟨op, w, n, nm, ks⟩).toList == s.toList) = true) : prsT s.data.toList = ((j5 s).1.1, true) := by
  rw [e] at h h3
  have hr : SufR s (j5 s).2.2 := (dL s 240).suf 0 _ ⟨List.suffix_refl _, hs⟩
  have e2 := str_eq h
  rw [fx_y h3] at e2
  exact (eG s).trans (if_pos ⟨h1, yL hr omG, h3, congrArg (fun x : ByteArray => x.data.toList) e2⟩)
def RtP (s : ByteArray) : AV → List Blk → Prop := (fun res B => ((prsT s.data.toList).1.kids = [] ∧ res = .tup [cB (prsT s.data.toList).1, .dat (.bool (prsT s.data.toList).2)] ∧ B = []) ∨ ((prsT s.data.toList).2 = true ∧ res = .tup [.agg [.dat (.i (prsT s.data.toList).1.op), .dat (.i (prsT s.data.toList).1.w), .dat (.i (prsT s.data.toList).1.n), .dat (.str (prsT s.data.toList).1.name), .row 0], .dat (.bool true)] ∧ B = [.tree 24 .terms (prsT s.data.toList).1.kids]))
theorem rp0 (h : prsT s.data.toList = (r4, false)) : RtP s (AV.tup [.agg [.dat (.int .i64 0), .dat (.int .i64 0), .dat (.int .i64 0), .dat (.str ByteArray.empty), .nils], .dat (.bool false)]) [] := by
  unfold RtP
  rw [h]
  exact .inl ⟨rfl, rfl, rfl⟩
theorem rp1 (h : prsT s.data.toList = ((j5 s).1.1, true)) (hk : (j5 s).1.1.kids = []) : RtP s (AV.tup [.agg [.dat (.int .i64 (j5 s).1.1.op), .dat (.int .i64 (j5 s).1.1.w), .dat (.int .i64 (j5 s).1.1.n), .dat (.str (j5 s).1.1.name), .nils], .dat (.bool true)]) [] := by
  unfold RtP
  rw [h]
  exact .inl ⟨hk, rfl, rfl⟩
theorem rp2 (h : prsT s.data.toList = ((j5 s).1.1, true)) : RtP s (AV.tup [.agg [.dat (.int .i64 (j5 s).1.1.op), .dat (.int .i64 (j5 s).1.1.w), .dat (.int .i64 (j5 s).1.1.n), .dat (.str (j5 s).1.1.name), .row 0], .dat (.bool true)]) [.tree 24 .terms (j5 s).1.1.kids] := by
  unfold RtP
  rw [h]
  exact .inr ⟨rfl, rfl, rfl⟩
end
theorem i_trI (s : ByteArray) (hs : s.size ≤ 1048576) : CallsG Tryd.prog 14 [.ptr 0 0] [.box [.dat (.str s), .dat (.i 0), .dat (.i 0)]] 1
    (fun res B => ((j5 s).1.1.kids = [] ∧ res = .tup [cB (j5 s).1.1, .dat (.bool (j5 s).1.2)] ∧ B = [.box [.dat (.str s), .dat (.i (u0 s (j5 s).2.2)), .dat (.i ((j5 s).2.1 : Int))]]) ∨ ((j5 s).1.2 = true ∧ res = .tup [.agg [.dat (.i (j5 s).1.1.op), .dat (.i (j5 s).1.1.w), .dat (.i (j5 s).1.1.n), .dat (.str (j5 s).1.1.name), .row 1], .dat (.bool true)] ∧ B = [.box [.dat (.str s), .dat (.i (u0 s (j5 s).2.2)), .dat (.i ((j5 s).2.1 : Int))], .tree 24 .terms (j5 s).1.1.kids])) := i_term s hs
theorem qbd (s : ByteArray) (hs : s.size ≤ 1048576) : CallsF Tryd.prog 5 [.dat (.str s)] true (fun res B => ((prsT s.data.toList).1.kids = [] ∧ res = .tup [cB (prsT s.data.toList).1, .dat (.bool (prsT s.data.toList).2)] ∧ B = []) ∨ ((prsT s.data.toList).2 = true ∧ res = .tup [.agg [.dat (.i (prsT s.data.toList).1.op), .dat (.i (prsT s.data.toList).1.w), .dat (.i (prsT s.data.toList).1.n), .dat (.str (prsT s.data.toList).1.name), .row 0], .dat (.bool true)] ∧ B = [.tree 24 .terms (prsT s.data.toList).1.kids])) := by
  refine oF Tryd.func5 ⟨?_⟩
  repeat' (first | ((with_reducible refine fun (K1 : KT) hK => ?_); refine i7 ⟨?_⟩) | ((with_reducible show K1 _ _); subst hK; conv => whnf) | (with_reducible exact rfl) | refine f4 ⟨?_⟩ | ((with_reducible refine SplS.mk (fun h => ?_) (fun h => ?_)) <;> first | exact g7 | (subst h; conv => whnf) | (conv => whnf)) | ((with_reducible refine d6 (g := 14) ?_); refine ⟨_, _, i_trI (hs := ?_) .., fun res B hRB => ?_⟩; rotate_right; obtain (⟨hk, rfl, rfl⟩ | ⟨hk, rfl, rfl⟩) := hRB <;> conv => whnf) | ((with_reducible first | refine p3 (g := 15) ?_ | show Exists _); refine ⟨_, uU .., rfl, ?_⟩; rotate_right; conv => whnf) | ((with_reducible first | refine p3 (g := 16) ?_ | show Exists _); refine ⟨_, qbf .., rfl, ?_⟩; rotate_right; conv => whnf) | (intro h; conv => whnf))
  all_goals repeat clear hK K1
  all_goals first | exact hs | exact Bool.noConfusion (show true = false from asmR) | exact rp0 (pt_n asmR) | exact rp0 (pt_p asmR) | exact rp0 (pt_t (lH hk) asmR) | exact rp0 (pt_f (lH hk) asmR) | exact rp0 (pt_t (V.Term.eta _) asmR) | exact rp0 (pt_f (V.Term.eta _) asmR) | exact rp1 (pt_y hs (lH hk) asmR asmR asmR asmR) hk | exact rp2 (pt_y hs (V.Term.eta _) hk asmR asmR asmR) | skip
end Vg
