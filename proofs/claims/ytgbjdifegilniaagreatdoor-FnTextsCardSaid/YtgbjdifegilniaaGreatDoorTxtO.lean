/- The program's ParseTerm: contract. Condition: the text is no longer than the law lets through. -/
import Derived.Test.YtgbjdifegilniaaGreatDoorTxtL
import Derived.Test.YtgbjdifegilniaaGreatDoorTxtN
namespace Vg
open Go Go.Proofs
set_option maxRecDepth 100000
set_option maxHeartbeats 40000000
section
variable {s : ByteArray}
noncomputable def f6 (s : ByteArray) : RdT := m0 240 0 s.data.toList
theorem mI (s : ByteArray) : w6 s.data.toList = if (f6 s).1.2 = true ∧ (f6 s).2.2 = [] ∧ o8 (f6 s).1.1 = true ∧ fmtL (f6 s).1.1 = s.data.toList then ((f6 s).1.1, true) else (w5, false) := prs_I s.data.toList
theorem pt_n (h : (f6 s).1.2 = false) : w6 s.data.toList = (w5, false) := by rw [mI, if_neg (fun q => by have := q.1; rw [h] at this; cases this)]
theorem pt_p (h : ¬ u1 s (f6 s).2.2 = (s.size : Int)) : w6 s.data.toList = (w5, false) := by
  rw [mI, if_neg (fun q => h (by rw [q.2.1]; unfold u1; rw [List.length_nil]; omega))]
theorem pt_t {op w n : Int} {nm : ByteArray} {ks : List V.Term} (e : (⟨op, w, n, nm, ks⟩ : V.Term) = (f6 s).1.1) (h : o8 ⟨op, w, n, nm, ks⟩ = false) : w6 s.data.toList = (w5, false) := by
  rw [e] at h
  rw [mI, if_neg (fun q => by have := q.2.2.1; rw [h] at this; cases this)]
theorem pt_f {op w n : Int} {nm : ByteArray} {ks : List V.Term} (e : (⟨op, w, n, nm, ks⟩ : V.Term) = (f6 s).1.1) (h : ((zD ⟨op, w, n, nm, ks⟩).toList == s.toList) = false) : w6 s.data.toList = (w5, false) := by
  rw [e] at h
  rw [mI, if_neg (fun q => str_ne h (by rw [fx_y q.2.2.1, q.2.2.2]; rfl))]
theorem pt_y (hs : s.size ≤ 1048576) {op w n : Int} {nm : ByteArray} {ks : List V.Term} (e : (⟨op, w, n, nm, ks⟩ : V.Term) = (f6 s).1.1) (h1 : (f6 s).1.2 = true) (h2 : u1 s (f6 s).2.2 = (s.size : Int)) (h3 : o8 ⟨op, w, n, nm, ks⟩ = true)
    (h : ((zD ⟨op, w, n, nm, ks⟩).toList == s.toList) = true) : w6 s.data.toList = ((f6 s).1.1, true) := by
  rw [e] at h h3
  have hr : SufR s (f6 s).2.2 := (jN s 240).suf 0 _ ⟨List.suffix_refl _, hs⟩
  have e2 := str_eq h
  rw [fx_y h3] at e2
  exact (mI s).trans (if_pos ⟨h1, hO hr omG, h3, congrArg (fun x : ByteArray => x.data.toList) e2⟩)
def RtP (s : ByteArray) : AV → List Blk → Prop := (fun res B => ((w6 s.data.toList).1.kids = [] ∧ res = .tup [mC (w6 s.data.toList).1, .dat (.bool (w6 s.data.toList).2)] ∧ B = []) ∨ ((w6 s.data.toList).2 = true ∧ res = .tup [.agg [.dat (.i (w6 s.data.toList).1.op), .dat (.i (w6 s.data.toList).1.w), .dat (.i (w6 s.data.toList).1.n), .dat (.str (w6 s.data.toList).1.name), .row 0], .dat (.bool true)] ∧ B = [.tree 25 .terms (w6 s.data.toList).1.kids]))
theorem rp0 (h : w6 s.data.toList = (w5, false)) : RtP s (AV.tup [.agg [.dat (.int .i64 0), .dat (.int .i64 0), .dat (.int .i64 0), .dat (.str ByteArray.empty), .nils], .dat (.bool false)]) [] := by
  unfold RtP
  rw [h]
  exact .inl ⟨rfl, rfl, rfl⟩
theorem rp1 (h : w6 s.data.toList = ((f6 s).1.1, true)) (hk : (f6 s).1.1.kids = []) : RtP s (AV.tup [.agg [.dat (.int .i64 (f6 s).1.1.op), .dat (.int .i64 (f6 s).1.1.w), .dat (.int .i64 (f6 s).1.1.n), .dat (.str (f6 s).1.1.name), .nils], .dat (.bool true)]) [] := by
  unfold RtP
  rw [h]
  exact .inl ⟨hk, rfl, rfl⟩
theorem rp2 (h : w6 s.data.toList = ((f6 s).1.1, true)) : RtP s (AV.tup [.agg [.dat (.int .i64 (f6 s).1.1.op), .dat (.int .i64 (f6 s).1.1.w), .dat (.int .i64 (f6 s).1.1.n), .dat (.str (f6 s).1.1.name), .row 0], .dat (.bool true)]) [.tree 25 .terms (f6 s).1.1.kids] := by
  unfold RtP
  rw [h]
  exact .inr ⟨rfl, rfl, rfl⟩
end
theorem i_trI (s : ByteArray) (hs : s.size ≤ 1048576) : CallsG Tryz.prog 30 [.ptr 0 0] [.box [.dat (.str s), .dat (.i 0), .dat (.i 0)]] 1
    (fun res B => ((f6 s).1.1.kids = [] ∧ res = .tup [mC (f6 s).1.1, .dat (.bool (f6 s).1.2)] ∧ B = [.box [.dat (.str s), .dat (.i (u1 s (f6 s).2.2)), .dat (.i ((f6 s).2.1 : Int))]]) ∨ ((f6 s).1.2 = true ∧ res = .tup [.agg [.dat (.i (f6 s).1.1.op), .dat (.i (f6 s).1.1.w), .dat (.i (f6 s).1.1.n), .dat (.str (f6 s).1.1.name), .row 1], .dat (.bool true)] ∧ B = [.box [.dat (.str s), .dat (.i (u1 s (f6 s).2.2)), .dat (.i ((f6 s).2.1 : Int))], .tree 25 .terms (f6 s).1.1.kids])) := i_term s hs
theorem qdy (s : ByteArray) (hs : s.size ≤ 1048576) : CallsF Tryz.prog 9 [.dat (.str s)] true (fun res B => ((w6 s.data.toList).1.kids = [] ∧ res = .tup [mC (w6 s.data.toList).1, .dat (.bool (w6 s.data.toList).2)] ∧ B = []) ∨ ((w6 s.data.toList).2 = true ∧ res = .tup [.agg [.dat (.i (w6 s.data.toList).1.op), .dat (.i (w6 s.data.toList).1.w), .dat (.i (w6 s.data.toList).1.n), .dat (.str (w6 s.data.toList).1.name), .row 0], .dat (.bool true)] ∧ B = [.tree 25 .terms (w6 s.data.toList).1.kids])) := by
  refine oF Tryz.func9 ⟨?_⟩
  repeat' (first | ((with_reducible refine fun (K1 : KT) hK => ?_); (with_reducible refine j5 ?_ ?_); exact rfl; conv => whnf) | ((with_reducible refine fun (K1 : KT) hK => ?_); conv => whnf) | ((with_reducible show K1 _ _); subst hK; conv => whnf) | (with_reducible exact rfl) | ((with_reducible refine a8 ?_); conv => whnf) | ((with_reducible refine m9 ?_); conv => whnf) | ((with_reducible refine f9 ?_); conv => whnf) | ((with_reducible refine sN (fun h => ?_) (fun h => ?_)) <;> first | (with_reducible contradiction) | (subst h; conv => whnf) | (conv => whnf)) | ((with_reducible refine e9 (fun h => ?_) (fun h => ?_)) <;> first | (exact u2 h asmR) | (exact u2 asmR h) | (conv => whnf)) | ((with_reducible refine lD (fun h => ?_) (fun h => ?_)) <;> first | (exact u2 h asmR) | (exact u2 asmR h) | (conv => whnf)) | (refine ⟨(rfl : d4 _ = true), rfl, ?_⟩; conv => whnf) | ((with_reducible refine j3 (g := 30) ?_); refine ⟨_, _, i_trI (hs := ?_) .., fun res B hRB => ?_⟩; rotate_right; obtain (⟨hk, rfl, rfl⟩ | ⟨hk, rfl, rfl⟩) := hRB <;> conv => whnf) | ((with_reducible first | refine s0 (g := 31) ?_ | show Exists _); refine ⟨_, fY .., rfl, ?_⟩; rotate_right; conv => whnf) | ((with_reducible first | refine s0 (g := 10) ?_ | show Exists _); refine ⟨_, mY .., rfl, ?_⟩; rotate_right; conv => whnf) | ((with_reducible show d3 _ _ _ _ _ _); conv => whnf) | (intro h; conv => whnf))
  all_goals repeat clear hK K1
  all_goals first | exact hs | exact Bool.noConfusion (show true = false from asmR) | exact rp0 (pt_n asmR) | exact rp0 (pt_p asmR) | exact rp0 (pt_t (eta0 hk) asmR) | exact rp0 (pt_f (eta0 hk) asmR) | exact rp0 (pt_t (V.Term.eta _) asmR) | exact rp0 (pt_f (V.Term.eta _) asmR) | exact rp1 (pt_y hs (eta0 hk) asmR asmR asmR asmR) hk | exact rp2 (pt_y hs (V.Term.eta _) hk asmR asmR asmR) | skip
end Vg
