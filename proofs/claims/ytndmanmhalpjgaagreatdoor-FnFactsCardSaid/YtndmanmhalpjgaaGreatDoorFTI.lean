/- The term of a fact: contracts of the program's functions. Conditions: the fact is good, the terms are good. -/
import Derived.Test.YtndmanmhalpjgaaGreatDoorFTQ
namespace Vg
open Go Go.Proofs
set_option maxRecDepth 100000
set_option maxHeartbeats 40000000
theorem frb {B : List Blk} {L : List Nat} {t u : Bool} (h : t = u) : s8 B (.dat (.bool t)) (AV.numM L (.dat (.bool u))) := by rw [h]; exact rfl
theorem mp_ok {op w n : Int} {ks : List V.Term} (h : (p4 op w n ks).2 = true) : okT (p4 op w n ks).1 = true := by
  cases c : m7 (oT op w n ks) with
  | true => rw [fK c]; exact mkT_ok (termP_ok c)
  | false => rw [mkP_n c] at h; cases h
theorem nl_ok {a b : V.Term} (h : (p9 a b).2 = true) : okT (p9 a b).1 = true := by
  cases c : (p4 15 1 0 [a, b]).2 with
  | true => rw [nl_y c] at h ⊢; exact mp_ok h
  | false => rw [nl_n c] at h; cases h
section
variable {w k a b n : Int} {rg : List V.Term}
theorem fq_1 : g6 w 1 a b n rg = p4 14 1 0 [cT w n, rg.getD a.toNat K.terms.dflt] := rfl
theorem fq_2 : g6 w 2 a b n rg = p4 14 1 0 [rg.getD a.toNat K.terms.dflt, rg.getD b.toNat K.terms.dflt] := rfl
theorem fq_3 : g6 w 3 a b n rg = p9 (cT w n) (rg.getD a.toNat K.terms.dflt) := rfl
theorem fq_4n (h : (p4 19 1 b [rg.getD a.toNat K.terms.dflt]).2 = false) : g6 w 4 a b n rg = (zT, false) := by unfold g6; rw [if_neg (by decide), if_neg (by decide), if_neg (by decide), if_pos rfl, if_neg (by rw [h]; decide)]
theorem fq_4y (h : (p4 19 1 b [rg.getD a.toNat K.terms.dflt]).2 = true) : g6 w 4 a b n rg = p4 14 1 0 [cT 1 n, (p4 19 1 b [rg.getD a.toNat K.terms.dflt]).1] := by unfold g6; rw [if_neg (by decide), if_neg (by decide), if_neg (by decide), if_pos rfl, if_pos h]
theorem fq_5n (h : (p4 3 w 0 [rg.getD a.toNat K.terms.dflt, rg.getD b.toNat K.terms.dflt]).2 = false) : g6 w 5 a b n rg = (zT, false) := by unfold g6; rw [if_neg (by decide), if_neg (by decide), if_neg (by decide), if_neg (by decide), if_pos rfl, if_neg (by rw [h]; decide)]
theorem fq_5y (h : (p4 3 w 0 [rg.getD a.toNat K.terms.dflt, rg.getD b.toNat K.terms.dflt]).2 = true) : g6 w 5 a b n rg = p4 14 1 0 [cT w n, (p4 3 w 0 [rg.getD a.toNat K.terms.dflt, rg.getD b.toNat K.terms.dflt]).1] := by unfold g6; rw [if_neg (by decide), if_neg (by decide), if_neg (by decide), if_neg (by decide), if_pos rfl, if_pos h]
theorem fq_6 (h1 : ¬ k = 1) (h2 : ¬ k = 2) (h3 : ¬ k = 3) (h4 : ¬ k = 4) (h5 : ¬ k = 5) : g6 w k a b n rg = p9 (rg.getD b.toNat K.terms.dflt) (rg.getD a.toNat K.terms.dflt) := by
  unfold g6
  rw [if_neg h1, if_neg h2, if_neg h3, if_neg h4, if_neg h5]
theorem fq_ok (h : (g6 w k a b n rg).2 = true) : okT (g6 w k a b n rg).1 = true := by
  by_cases c1 : k = 1
  · subst c1; exact mp_ok h
  by_cases c2 : k = 2
  · subst c2; exact mp_ok h
  by_cases c3 : k = 3
  · subst c3; exact nl_ok h
  by_cases c4 : k = 4
  · subst c4
    cases c : (p4 19 1 b [rg.getD a.toNat K.terms.dflt]).2 with
    | true => rw [fq_4y c] at h ⊢; exact mp_ok h
    | false => rw [fq_4n c] at h; cases h
  by_cases c5 : k = 5
  · subst c5
    cases c : (p4 3 w 0 [rg.getD a.toNat K.terms.dflt, rg.getD b.toNat K.terms.dflt]).2 with
    | true => rw [fq_5y c] at h ⊢; exact mp_ok h
    | false => rw [fq_5n c] at h; cases h
  rw [fq_6 c1 c2 c3 c4 c5] at h ⊢; exact nl_ok h
structure FcI (w k a b n : Int) : Prop where
  a0 : 0 ≤ a ∧ a ≤ 3
  k1 : 1 ≤ k ∧ k ≤ 6
  b2 : k = 2 ∨ k = 5 ∨ k = 6 → 0 ≤ b ∧ b ≤ 3
  n1 : k = 1 ∨ k = 3 ∨ k = 5 → wordP w n = true
  n4 : k = 4 → 0 ≤ n ∧ n ≤ 1
end
theorem fc_of {w k a b n : Int} (h : factP w ⟨k, a, b, n⟩ = true) : FcI w k a b n := by
  unfold factP at h
  dsimp only at h
  by_cases c : regP a = false
  · rw [if_pos c] at h; cases h
  rw [if_neg c] at h
  have ca : regP a = true := by simpa using c
  have ha : 0 ≤ a ∧ a ≤ 3 := by simp [regP, inP] at ca; omega
  repeat' split at h
  all_goals (try simp only [Bool.and_eq_true, decide_eq_true_eq, regP, oA] at h)
  · exact ⟨ha, by omega, by omega, fun _ => h.2, by omega⟩
  · exact ⟨ha, by omega, by omega, by omega, by omega⟩
  · exact ⟨ha, by omega, by omega, fun _ => h.1.2, by omega⟩
  · exact ⟨ha, by omega, by omega, by omega, by omega⟩
  · exact ⟨ha, by omega, by omega, fun _ => h.2, by omega⟩
  · exact ⟨ha, by omega, by omega, by omega, by omega⟩
  · cases h
theorem word1 {n : Int} (h : 0 ≤ n ∧ n ≤ 1) : wordP 1 n = true := by
  have : n = 0 ∨ n = 1 := by omega
  rcases this with rfl | rfl <;> decide
theorem bT (uo uw un : Int) (um : ByteArray) (uk : List V.Term) (vo vw vn : Int) (vm : ByteArray) (vk : List V.Term) : CallsV Tryz.prog 51 [.agg [.dat (.i uo), .dat (.i uw), .dat (.i un), .dat (.str um), .dat (.seq .terms uk)], .agg [.dat (.i vo), .dat (.i vw), .dat (.i vn), .dat (.str vm), .dat (.seq .terms vk)]] (.tup [s5 (p9 ⟨uo, uw, un, um, uk⟩ ⟨vo, vw, vn, vm, vk⟩).1, .dat (.bool (p9 ⟨uo, uw, un, um, uk⟩ ⟨vo, vw, vn, vm, vk⟩).2)]) := by
  refine oV Tryz.func51 ⟨?_⟩
  repeat' (first | ((with_reducible refine fun (K1 : KT) hK => ?_); refine l6 ⟨?_⟩) | ((with_reducible show K1 _ _); subst hK; conv => whnf) | (with_reducible exact rfl) | refine m0 ⟨?_⟩ | ((with_reducible refine SplS.mk (fun h => ?_) (fun h => ?_)) <;> first | exact z1 | (subst h; conv => whnf) | (conv => whnf)) | refine u2 ⟨?_⟩ ⟨?_⟩ | ((with_reducible show Exists _); refine Exists.intro _ (And.intro (i_makeTerm ..) (And.intro rfl ?_)); rotate_right; conv => whnf) | ((with_reducible refine u1 (g := 49) ?_); (conv => whnf); refine ⟨_, _, i_makeTerm .., rfl, zV ?_⟩; rotate_right; conv => whnf) | (intro h; conv => whnf))
  all_goals repeat clear hK K1
  all_goals first | exact True.intro | ((try simp only [V.Term.eta] at *); first | exact fr5M ((congrArg Prod.fst (nl_y asmR)).trans (V.Term.eta _).symm) | exact frb (congrArg Prod.snd (nl_y asmR)) | exact fr5Mn (congrArg Prod.fst (nl_n asmR)) | exact frb (congrArg Prod.snd (nl_n asmR))) | skip
theorem kZ (w k a b n : Int) (rg : List V.Term) (hf : FcI w k a b n) (hr : rg.length = 4) : CallsV Tryz.prog 29 [.dat (.i w), .agg [.dat (.i k), .dat (.i a), .dat (.i b), .dat (.i n)], .dat (.seq .terms rg)] (.tup [s5 (g6 w k a b n rg).1, .dat (.bool (g6 w k a b n rg).2)]) := by
  refine oV Tryz.func29 ⟨?_⟩
  repeat' (first | ((with_reducible refine fun (K1 : KT) hK => ?_); refine l6 ⟨?_⟩) | ((with_reducible show K1 _ _); subst hK; conv => whnf) | (with_reducible exact rfl) | refine n7 ⟨?_⟩ | ((with_reducible show WEach _ _); refine d8 rfl ?_ ?_; conv => whnf) | refine m0 ⟨?_⟩ | ((with_reducible refine SplS.mk (fun h => ?_) (fun h => ?_)) <;> first | exact z1 | (subst h; conv => whnf) | (conv => whnf)) | refine u2 ⟨?_⟩ ⟨?_⟩ | ((with_reducible first | refine g0 (g := 49) ?_ | show Exists _); refine ⟨_, i_makeTerm .., rfl, ?_⟩; rotate_right; conv => whnf) | ((with_reducible first | refine g0 (g := 50) ?_ | show Exists _); refine ⟨_, v7 (h := ?_) .., rfl, ?_⟩; rotate_right; conv => whnf) | ((with_reducible first | refine g0 (g := 51) ?_ | show Exists _); refine ⟨_, bT .., rfl, ?_⟩; rotate_right; conv => whnf) | ((with_reducible refine u1 (g := 49) ?_); (conv => whnf); refine ⟨_, _, i_makeTerm .., rfl, zV ?_⟩; rotate_right; conv => whnf) | ((with_reducible refine u1 (g := 50) ?_); (conv => whnf); refine ⟨_, _, v7 (h := ?_) .., rfl, zV ?_⟩; rotate_right; conv => whnf) | ((with_reducible refine u1 (g := 51) ?_); (conv => whnf); refine ⟨_, _, bT .., rfl, zV ?_⟩; rotate_right; conv => whnf) | (intro h; conv => whnf))
  all_goals repeat clear hK K1
  all_goals (have q1 := hf.a0; have q2 := hf.k1; have q3 := hf.b2)
  all_goals first | exact True.intro | ((with_reducible show (_ : Int) ≤ _); omega) | ((with_reducible show (_ : Int) < _); omega) | ((with_reducible show (_ : Nat) < _); omega) | ((with_reducible show wordP _ _ = true); first | exact hf.n1 omG | exact word1 (hf.n4 omG)) | (exfalso; omega) | ((try simp only [V.Term.eta] at *); (first | rw [fq_1] | rw [fq_2] | rw [fq_3] | rw [fq_4y asmR] | rw [fq_4n asmR] | rw [fq_5y asmR] | rw [fq_5n asmR] | rw [fq_6 asmR asmR asmR asmR asmR]); first | exact fr5M (V.Term.eta _).symm | exact frb rfl | exact fr5Mn rfl) | skip
structure FtY (p : V.Prog) (k a b n : Int) (rg : List V.Term) : Prop where
  hp : (progP p && factP p.w ⟨k, a, b, n⟩) = true
  rl : rg.length = 4
  rt : fD p.w rg = true
  y : (g6 p.w k a b n rg).2 = true
section
variable {p : V.Prog} {k a b n : Int} {rg : List V.Term}
theorem FtY.f (h : FtY p k a b n rg) : FcI p.w k a b n := by
  have := h.hp
  rw [Bool.and_eq_true] at this
  exact fc_of this.2
theorem FtY.ok (h : FtY p k a b n rg) : okT ⟨(g6 p.w k a b n rg).1.op, (g6 p.w k a b n rg).1.w, (g6 p.w k a b n rg).1.n, (g6 p.w k a b n rg).1.name, (g6 p.w k a b n rg).1.kids⟩ = true := by
  rw [V.Term.eta]; exact fq_ok h.y
end
theorem wZ (w mem inn : Int) (code : List V.Ins) (k a b n : Int) (rg : List V.Term) (hy : FtY ⟨w, mem, inn, code⟩ k a b n rg) : CallsF Tryz.prog 11 [.agg [.dat (.i w), .dat (.i mem), .dat (.i inn), .dat (.seq .inss code)], .agg [.dat (.i k), .dat (.i a), .dat (.i b), .dat (.i n)], .dat (.seq .terms rg)] true (fun res B => res = .tup [.agg [.dat (.i (g6 w k a b n rg).1.op), .dat (.i (g6 w k a b n rg).1.w), .dat (.i (g6 w k a b n rg).1.n), .dat (.str (g6 w k a b n rg).1.name), .row 0], .dat (.bool true)] ∧ B = [.tree 39 .terms (g6 w k a b n rg).1.kids]) := by
  refine oF Tryz.func11 ⟨?_⟩
  repeat' (first | ((with_reducible refine fun (K1 : KT) hK => ?_); refine l6 ⟨?_⟩) | ((with_reducible show K1 _ _); subst hK; conv => whnf) | (with_reducible exact rfl) | refine m0 ⟨?_⟩ | ((with_reducible refine SplS.mk (fun h => ?_) (fun h => ?_)) <;> first | exact z1 | (subst h; conv => whnf) | (conv => whnf)) | refine u2 ⟨?_⟩ ⟨?_⟩ | ((with_reducible first | refine g0 (g := 21) ?_ | show Exists _); refine ⟨_, rN .., rfl, ?_⟩; rotate_right; conv => whnf) | ((with_reducible first | refine g0 (g := 28) ?_ | show Exists _); refine ⟨_, uY .., rfl, ?_⟩; rotate_right; conv => whnf) | ((with_reducible first | refine g0 (g := 29) ?_ | show Exists _); refine ⟨_, kZ (hf := ?_) (hr := ?_) .., rfl, ?_⟩; rotate_right; conv => whnf) | ((with_reducible refine vB (g := 30) ?_); refine ⟨_, _, nZ (hk := ?_) .., rfl, zV ?_⟩; rotate_right; conv => whnf) | (intro h; conv => whnf))
  all_goals repeat clear hK K1
  all_goals (have q1 := hy.rl; have q2 := hy.rt; have q3 := hy.y; have q4 := hy.hp; dsimp only at q2 q3 q4)
  all_goals first | exact True.intro | exact ⟨rfl, rfl⟩ | exact hy.rl | exact hy.f | exact hy.ok | exact Bool.noConfusion (q4.symm.trans (show (progP ⟨w, mem, inn, code⟩ && factP w ⟨k, a, b, n⟩) = false by with_reducible assumption)) | exact Bool.noConfusion (q2.symm.trans (show fD w rg = false by with_reducible assumption)) | exact Bool.noConfusion (q3.symm.trans (show (g6 w k a b n rg).2 = false by with_reducible assumption)) | (exfalso; omega) | rfl | skip
end Vg
