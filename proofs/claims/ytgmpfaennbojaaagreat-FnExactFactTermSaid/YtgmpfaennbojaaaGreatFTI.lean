/- The term of a fact: contracts of the program's functions. Conditions: the fact is good, the terms are good. -/
import Derived.Test.YtgmpfaennbojaaaGreatFTQ
namespace Vg
open Go Go.Proofs
theorem frb {B : List Blk} {L : List Nat} {t u : Bool} (h : t = u) : frzM B (.dat (.bool t)) (AV.numM L (.dat (.bool u))) := by rw [h]; exact rfl
theorem mp_ok {op w n : Int} {ks : List V.Term} (h : (mkP op w n ks).2 = true) : okT (mkP op w n ks).1 = true := by
  cases c : termP (oT op w n ks) with
  | true => rw [mkP_y c]; exact mkT_ok (termP_ok c)
  | false => rw [mkP_n c] at h; cases h
theorem mp_bad {op w n : Int} {ks : List V.Term} (h : (mkP op w n ks).2 = false) : mkP op w n ks = (zT, false) := by
  cases c : termP (oT op w n ks) with
  | true => rw [mkP_y c] at h; cases h
  | false => exact mkP_n c
theorem nl_ok {a b : V.Term} (h : (nlP a b).2 = true) : okT (nlP a b).1 = true := by
  cases c : (mkP 15 1 0 [a, b]).2 with
  | true => rw [nl_y c] at h ⊢; exact mp_ok h
  | false => rw [nl_n c] at h; cases h
section
variable {w k a b n : Int} {rg : List V.Term}
theorem fq_1 : ftP w 1 a b n rg = mkP 14 1 0 [cT w n, rg.getD a.toNat K.terms.dflt] := rfl
theorem fq_2 : ftP w 2 a b n rg = mkP 14 1 0 [rg.getD a.toNat K.terms.dflt, rg.getD b.toNat K.terms.dflt] := rfl
theorem fq_3 : ftP w 3 a b n rg = nlP (cT w n) (rg.getD a.toNat K.terms.dflt) := rfl
theorem fq_4n (h : (mkP 19 1 b [rg.getD a.toNat K.terms.dflt]).2 = false) : ftP w 4 a b n rg = (zT, false) := by unfold ftP; rw [if_neg (by decide), if_neg (by decide), if_neg (by decide), if_pos rfl, if_neg (by rw [h]; decide)]
theorem fq_4y (h : (mkP 19 1 b [rg.getD a.toNat K.terms.dflt]).2 = true) : ftP w 4 a b n rg = mkP 14 1 0 [cT 1 n, (mkP 19 1 b [rg.getD a.toNat K.terms.dflt]).1] := by unfold ftP; rw [if_neg (by decide), if_neg (by decide), if_neg (by decide), if_pos rfl, if_pos h]
theorem fq_5n (h : (mkP 3 w 0 [rg.getD a.toNat K.terms.dflt, rg.getD b.toNat K.terms.dflt]).2 = false) : ftP w 5 a b n rg = (zT, false) := by unfold ftP; rw [if_neg (by decide), if_neg (by decide), if_neg (by decide), if_neg (by decide), if_pos rfl, if_neg (by rw [h]; decide)]
theorem fq_5y (h : (mkP 3 w 0 [rg.getD a.toNat K.terms.dflt, rg.getD b.toNat K.terms.dflt]).2 = true) : ftP w 5 a b n rg = mkP 14 1 0 [cT w n, (mkP 3 w 0 [rg.getD a.toNat K.terms.dflt, rg.getD b.toNat K.terms.dflt]).1] := by unfold ftP; rw [if_neg (by decide), if_neg (by decide), if_neg (by decide), if_neg (by decide), if_pos rfl, if_pos h]
theorem fq_6 (h1 : ¬ k = 1) (h2 : ¬ k = 2) (h3 : ¬ k = 3) (h4 : ¬ k = 4) (h5 : ¬ k = 5) : ftP w k a b n rg = nlP (rg.getD b.toNat K.terms.dflt) (rg.getD a.toNat K.terms.dflt) := by
  unfold ftP
  rw [if_neg h1, if_neg h2, if_neg h3, if_neg h4, if_neg h5]
theorem fq_ok (h : (ftP w k a b n rg).2 = true) : okT (ftP w k a b n rg).1 = true := by
  by_cases c1 : k = 1
  · subst c1; exact mp_ok h
  by_cases c2 : k = 2
  · subst c2; exact mp_ok h
  by_cases c3 : k = 3
  · subst c3; exact nl_ok h
  by_cases c4 : k = 4
  · subst c4
    cases c : (mkP 19 1 b [rg.getD a.toNat K.terms.dflt]).2 with
    | true => rw [fq_4y c] at h ⊢; exact mp_ok h
    | false => rw [fq_4n c] at h; cases h
  by_cases c5 : k = 5
  · subst c5
    cases c : (mkP 3 w 0 [rg.getD a.toNat K.terms.dflt, rg.getD b.toNat K.terms.dflt]).2 with
    | true => rw [fq_5y c] at h ⊢; exact mp_ok h
    | false => rw [fq_5n c] at h; cases h
  rw [fq_6 c1 c2 c3 c4 c5] at h ⊢; exact nl_ok h
theorem nl_no {a b : V.Term} (h : (nlP a b).2 = false) : nlP a b = (zT, false) := by
  cases c : (mkP 15 1 0 [a, b]).2 with
  | true => rw [nl_y c] at h ⊢; exact mp_bad h
  | false => exact nl_n c
theorem fq_no (h : (ftP w k a b n rg).2 = false) : ftP w k a b n rg = (zT, false) := by
  by_cases c1 : k = 1
  · subst c1; exact mp_bad h
  by_cases c2 : k = 2
  · subst c2; exact mp_bad h
  by_cases c3 : k = 3
  · subst c3; exact nl_no h
  by_cases c4 : k = 4
  · subst c4
    cases c : (mkP 19 1 b [rg.getD a.toNat K.terms.dflt]).2 with
    | true => rw [fq_4y c] at h ⊢; exact mp_bad h
    | false => exact fq_4n c
  by_cases c5 : k = 5
  · subst c5
    cases c : (mkP 3 w 0 [rg.getD a.toNat K.terms.dflt, rg.getD b.toNat K.terms.dflt]).2 with
    | true => rw [fq_5y c] at h ⊢; exact mp_bad h
    | false => exact fq_5n c
  rw [fq_6 c1 c2 c3 c4 c5] at h ⊢; exact nl_no h
structure FcI (w k a b n : Int) : Prop where
  a0 : 0 ≤ a ∧ a ≤ 3
  k1 : 1 ≤ k ∧ k ≤ 6
  b2 : k = 2 ∨ k = 5 ∨ k = 6 → 0 ≤ b ∧ b ≤ 3
  n1 : k = 1 ∨ k = 3 ∨ k = 5 → wordP w n = true
  n4 : k = 4 → 0 ≤ n ∧ n ≤ 1
end
theorem fc_of {w k a b n : Int} (h : factP w ⟨k, a, b, n⟩ = true) : FcI w k a b n := by
  unfold factP at h
  dsimp only at h
  by_cases c : regP a = false
  · rw [if_pos c] at h; cases h
  rw [if_neg c] at h
  have ca : regP a = true := by simpa using c
  have ha : 0 ≤ a ∧ a ≤ 3 := by simp [regP, inP] at ca; omega
  repeat' split at h
  all_goals (try simp only [Bool.and_eq_true, decide_eq_true_eq, regP, inP_iff] at h)
  · exact ⟨ha, by omega, by omega, fun _ => h.2, by omega⟩
  · exact ⟨ha, by omega, by omega, by omega, by omega⟩
  · exact ⟨ha, by omega, by omega, fun _ => h.1.2, by omega⟩
  · exact ⟨ha, by omega, by omega, by omega, by omega⟩
  · exact ⟨ha, by omega, by omega, fun _ => h.2, by omega⟩
  · exact ⟨ha, by omega, by omega, by omega, by omega⟩
  · cases h
theorem word1 {n : Int} (h : 0 ≤ n ∧ n ≤ 1) : wordP 1 n = true := by
  have : n = 0 ∨ n = 1 := by omega
  rcases this with rfl | rfl <;> decide
set_option maxRecDepth 100000 in
theorem i_notLess (uo uw un : Int) (um : ByteArray) (uk : List V.Term) (vo vw vn : Int) (vm : ByteArray) (vk : List V.Term) : CallsV Tryz.prog 48 [.agg [.dat (.i uo), .dat (.i uw), .dat (.i un), .dat (.str um), .dat (.seq .terms uk)], .agg [.dat (.i vo), .dat (.i vw), .dat (.i vn), .dat (.str vm), .dat (.seq .terms vk)]] (.tup [datT (nlP ⟨uo, uw, un, um, uk⟩ ⟨vo, vw, vn, vm, vk⟩).1, .dat (.bool (nlP ⟨uo, uw, un, um, uk⟩ ⟨vo, vw, vn, vm, vk⟩).2)]) := by
  refine CallsV.of_awp tauOk mixOk Tryz.func48 rfl rfl rfl ?_
  conv => whnf
  repeat' (first | ((with_reducible refine fun (K1 : AX → AState → Prop) hK => ?_); refine stW ⟨?_⟩) | ((with_reducible show K1 _ _); subst hK; conv => whnf) | (with_reducible exact rfl) | refine st0 ⟨?_⟩ | ((with_reducible refine SplS.mk (fun h => ?_) (fun h => ?_)) <;> first | exact ctA | (subst h; conv => whnf) | (conv => whnf)) | ((with_reducible refine SplB.mk (fun h => ?_) (fun h => ?_)) <;> first | exact ctR | (conv => whnf)) | ((with_reducible refine and_of ?_ ?_); conv => whnf) | ((with_reducible show Exists _); refine Exists.intro _ (And.intro (i_makeTerm ..) (And.intro rfl ?_)); rotate_right; conv => whnf) | ((with_reducible refine zcI (g := 46) ?_); (conv => whnf); refine ⟨_, _, i_makeTerm .., rfl, fun res B hRB => ?_⟩; rotate_right; obtain ⟨rfl, rfl⟩ := hRB; conv => whnf) | (intro h; conv => whnf))
  all_goals (repeat (clear hK; clear K1))
  all_goals first | exact True.intro | ((try simp only [V.Term.eta] at *); first | exact fr5M ((congrArg Prod.fst (nl_y (by with_reducible assumption))).trans (V.Term.eta _).symm) | exact frb (congrArg Prod.snd (nl_y (by with_reducible assumption))) | exact fr5Mn (congrArg Prod.fst (nl_n (by with_reducible assumption))) | exact frb (congrArg Prod.snd (nl_n (by with_reducible assumption)))) | skip
set_option maxHeartbeats 8000000 in
set_option maxRecDepth 100000 in
theorem i_factTerm (w k a b n : Int) (rg : List V.Term) (hf : FcI w k a b n) (hr : rg.length = 4) : CallsV Tryz.prog 29 [.dat (.i w), .agg [.dat (.i k), .dat (.i a), .dat (.i b), .dat (.i n)], .dat (.seq .terms rg)] (.tup [datT (ftP w k a b n rg).1, .dat (.bool (ftP w k a b n rg).2)]) := by
  refine CallsV.of_awp tauOk mixOk Tryz.func29 rfl rfl rfl ?_
  conv => whnf
  repeat' (first | ((with_reducible refine fun (K1 : AX → AState → Prop) hK => ?_); refine stW ⟨?_⟩) | ((with_reducible show K1 _ _); subst hK; conv => whnf) | (with_reducible exact rfl) | refine stD ⟨?_⟩ | ((with_reducible show WEach _ _); refine WEach_more rfl ?_ ?_; conv => whnf) | refine st0 ⟨?_⟩ | ((with_reducible refine SplS.mk (fun h => ?_) (fun h => ?_)) <;> first | exact ctA | (subst h; conv => whnf) | (conv => whnf)) | ((with_reducible refine SplB.mk (fun h => ?_) (fun h => ?_)) <;> first | exact ctR | (conv => whnf)) | (with_reducible first | refine bnd2 ?_ ?_ | refine bnd2' ?_ ?_ | refine bndN ?_ ?_) | ((with_reducible refine and_of ?_ ?_); conv => whnf) | ((with_reducible refine pcI (g := 46) ?_); refine ⟨_, i_makeTerm .., rfl, ?_⟩; rotate_right; conv => whnf) | ((with_reducible show Exists _); refine Exists.intro _ (And.intro (i_makeTerm ..) (And.intro rfl ?_)); rotate_right; conv => whnf) | ((with_reducible refine pcI (g := 47) ?_); refine ⟨_, i_ConstTerm (h := ?_) .., rfl, ?_⟩; rotate_right; conv => whnf) | ((with_reducible show Exists _); refine Exists.intro _ (And.intro (i_ConstTerm (h := ?_) ..) (And.intro rfl ?_)); rotate_right; conv => whnf) | ((with_reducible refine pcI (g := 48) ?_); refine ⟨_, i_notLess .., rfl, ?_⟩; rotate_right; conv => whnf) | ((with_reducible show Exists _); refine Exists.intro _ (And.intro (i_notLess ..) (And.intro rfl ?_)); rotate_right; conv => whnf) | ((with_reducible refine zcI (g := 46) ?_); (conv => whnf); refine ⟨_, _, i_makeTerm .., rfl, fun res B hRB => ?_⟩; rotate_right; obtain ⟨rfl, rfl⟩ := hRB; conv => whnf) | ((with_reducible refine zcI (g := 47) ?_); (conv => whnf); refine ⟨_, _, i_ConstTerm (h := ?_) .., rfl, fun res B hRB => ?_⟩; rotate_right; obtain ⟨rfl, rfl⟩ := hRB; conv => whnf) | ((with_reducible refine zcI (g := 48) ?_); (conv => whnf); refine ⟨_, _, i_notLess .., rfl, fun res B hRB => ?_⟩; rotate_right; obtain ⟨rfl, rfl⟩ := hRB; conv => whnf) | (intro h; conv => whnf))
  all_goals (repeat (clear hK; clear K1))
  all_goals (have q1 := hf.a0; have q2 := hf.k1; have q3 := hf.b2)
  all_goals first | exact True.intro | ((with_reducible show (_ : Int) ≤ _); omega) | ((with_reducible show (_ : Int) < _); omega) | ((with_reducible show (_ : Nat) < _); omega) | ((with_reducible show wordP _ _ = true); first | exact hf.n1 (by omega) | exact word1 (hf.n4 (by omega))) | (exfalso; omega) | ((try simp only [V.Term.eta] at *); (first | rw [fq_1] | rw [fq_2] | rw [fq_3] | rw [fq_4y (by with_reducible assumption)] | rw [fq_4n (by with_reducible assumption)] | rw [fq_5y (by with_reducible assumption)] | rw [fq_5n (by with_reducible assumption)] | rw [fq_6 (by with_reducible assumption) (by with_reducible assumption) (by with_reducible assumption) (by with_reducible assumption) (by with_reducible assumption)]); first | exact fr5M (V.Term.eta _).symm | exact frb rfl | exact fr5Mn rfl) | skip
structure FtY (p : V.Prog) (k a b n : Int) (rg : List V.Term) : Prop where
  hp : (progP p && factP p.w ⟨k, a, b, n⟩) = true
  rl : rg.length = 4
  rt : termsP p.w rg = true
  y : (ftP p.w k a b n rg).2 = true
structure FtN (p : V.Prog) (k a b n : Int) (rg : List V.Term) : Prop where
  no : ¬ FtY p k a b n rg
section
variable {p : V.Prog} {k a b n : Int} {rg : List V.Term}
theorem FtY.f (h : FtY p k a b n rg) : FcI p.w k a b n := by
  have := h.hp
  rw [Bool.and_eq_true] at this
  exact fc_of this.2
theorem fc_and {w : Int} (h : (progP p && factP w ⟨k, a, b, n⟩) = true) : FcI w k a b n := by
  rw [Bool.and_eq_true] at h
  exact fc_of h.2
theorem FtY.ok (h : FtY p k a b n rg) : okT ⟨(ftP p.w k a b n rg).1.op, (ftP p.w k a b n rg).1.w, (ftP p.w k a b n rg).1.n, (ftP p.w k a b n rg).1.name, (ftP p.w k a b n rg).1.kids⟩ = true := by
  rw [V.Term.eta]; exact fq_ok h.y
end
set_option maxHeartbeats 8000000 in
set_option maxRecDepth 100000 in
theorem i_FactTermY (w mem inn : Int) (code : List V.Ins) (k a b n : Int) (rg : List V.Term) (hy : FtY ⟨w, mem, inn, code⟩ k a b n rg) : CallsF Tryz.prog 10 [.agg [.dat (.i w), .dat (.i mem), .dat (.i inn), .dat (.seq .inss code)], .agg [.dat (.i k), .dat (.i a), .dat (.i b), .dat (.i n)], .dat (.seq .terms rg)] true (fun res B => res = .tup [.agg [.dat (.i (ftP w k a b n rg).1.op), .dat (.i (ftP w k a b n rg).1.w), .dat (.i (ftP w k a b n rg).1.n), .dat (.str (ftP w k a b n rg).1.name), .row 0], .dat (.bool true)] ∧ B = [.tree 32 .terms (ftP w k a b n rg).1.kids]) := by
  refine CallsF.of_awp tauOk mixOk Tryz.func10 rfl rfl rfl ?_
  conv => whnf
  repeat' (first | ((with_reducible refine fun (K1 : AX → AState → Prop) hK => ?_); refine stW ⟨?_⟩) | ((with_reducible show K1 _ _); subst hK; conv => whnf) | (with_reducible exact rfl) | refine st0 ⟨?_⟩ | ((with_reducible refine SplS.mk (fun h => ?_) (fun h => ?_)) <;> first | exact ctA | (subst h; conv => whnf) | (conv => whnf)) | ((with_reducible refine SplB.mk (fun h => ?_) (fun h => ?_)) <;> first | exact ctR | (conv => whnf)) | ((with_reducible refine and_of ?_ ?_); conv => whnf) | ((with_reducible refine pcI (g := 27) ?_); refine ⟨_, i_FactOk .., rfl, ?_⟩; rotate_right; conv => whnf) | ((with_reducible show Exists _); refine Exists.intro _ (And.intro (i_FactOk ..) (And.intro rfl ?_)); rotate_right; conv => whnf) | ((with_reducible refine pcI (g := 28) ?_); refine ⟨_, i_termsOk .., rfl, ?_⟩; rotate_right; conv => whnf) | ((with_reducible show Exists _); refine Exists.intro _ (And.intro (i_termsOk ..) (And.intro rfl ?_)); rotate_right; conv => whnf) | ((with_reducible refine pcI (g := 29) ?_); refine ⟨_, i_factTerm (hf := ?_) (hr := ?_) .., rfl, ?_⟩; rotate_right; conv => whnf) | ((with_reducible show Exists _); refine Exists.intro _ (And.intro (i_factTerm (hf := ?_) (hr := ?_) ..) (And.intro rfl ?_)); rotate_right; conv => whnf) | ((with_reducible refine fcI (g := 30) ?_); refine ⟨_, _, i_copyTerm (hk := ?_) .., rfl, fun res B hRB => ?_⟩; rotate_right; obtain ⟨rfl, rfl⟩ := hRB; conv => whnf) | (intro h; conv => whnf))
  all_goals (repeat (clear hK; clear K1))
  all_goals (have q1 := hy.rl; have q2 := hy.rt; have q3 := hy.y; have q4 := hy.hp; dsimp only at q2 q3 q4)
  all_goals first | exact True.intro | exact ⟨rfl, rfl⟩ | exact hy.rl | exact hy.f | exact hy.ok | exact Bool.noConfusion (q4.symm.trans (show (progP ⟨w, mem, inn, code⟩ && factP w ⟨k, a, b, n⟩) = false by with_reducible assumption)) | exact Bool.noConfusion (q2.symm.trans (show termsP w rg = false by with_reducible assumption)) | exact Bool.noConfusion (q3.symm.trans (show (ftP w k a b n rg).2 = false by with_reducible assumption)) | (exfalso; omega) | rfl | skip
set_option maxHeartbeats 8000000 in
set_option maxRecDepth 100000 in
theorem i_FactTermN (w mem inn : Int) (code : List V.Ins) (k a b n : Int) (rg : List V.Term) (hn : FtN ⟨w, mem, inn, code⟩ k a b n rg) : CallsF Tryz.prog 10 [.agg [.dat (.i w), .dat (.i mem), .dat (.i inn), .dat (.seq .inss code)], .agg [.dat (.i k), .dat (.i a), .dat (.i b), .dat (.i n)], .dat (.seq .terms rg)] true (fun res B => res = .tup [.agg [.dat (.i 0), .dat (.i 0), .dat (.i 0), .dat (.str ByteArray.empty), .nils], .dat (.bool false)] ∧ B = []) := by
  refine CallsF.of_awp tauOk mixOk Tryz.func10 rfl rfl rfl ?_
  conv => whnf
  repeat' (first | ((with_reducible refine fun (K1 : AX → AState → Prop) hK => ?_); refine stW ⟨?_⟩) | ((with_reducible show K1 _ _); subst hK; conv => whnf) | (with_reducible exact rfl) | refine st0 ⟨?_⟩ | ((with_reducible refine SplS.mk (fun h => ?_) (fun h => ?_)) <;> first | exact ctA | (subst h; conv => whnf) | (conv => whnf)) | ((with_reducible refine SplB.mk (fun h => ?_) (fun h => ?_)) <;> first | exact ctR | (conv => whnf)) | ((with_reducible refine and_of ?_ ?_); conv => whnf) | ((with_reducible refine pcI (g := 27) ?_); refine ⟨_, i_FactOk .., rfl, ?_⟩; rotate_right; conv => whnf) | ((with_reducible show Exists _); refine Exists.intro _ (And.intro (i_FactOk ..) (And.intro rfl ?_)); rotate_right; conv => whnf) | ((with_reducible refine pcI (g := 28) ?_); refine ⟨_, i_termsOk .., rfl, ?_⟩; rotate_right; conv => whnf) | ((with_reducible show Exists _); refine Exists.intro _ (And.intro (i_termsOk ..) (And.intro rfl ?_)); rotate_right; conv => whnf) | ((with_reducible refine pcI (g := 29) ?_); refine ⟨_, i_factTerm (hf := ?_) (hr := ?_) .., rfl, ?_⟩; rotate_right; conv => whnf) | ((with_reducible show Exists _); refine Exists.intro _ (And.intro (i_factTerm (hf := ?_) (hr := ?_) ..) (And.intro rfl ?_)); rotate_right; conv => whnf) | ((with_reducible refine fcI (g := 30) ?_); refine ⟨_, _, i_copyTerm (hk := ?_) .., rfl, fun res B hRB => ?_⟩; rotate_right; obtain ⟨rfl, rfl⟩ := hRB; conv => whnf) | (intro h; conv => whnf))
  all_goals (repeat (clear hK; clear K1))
  all_goals first | exact True.intro | exact ⟨rfl, rfl⟩ | exact fc_and (by with_reducible assumption) | omega | (exact absurd ⟨(by with_reducible assumption), by omega, (by with_reducible assumption), (by with_reducible assumption)⟩ hn.no) | rfl | skip
end Vg

namespace Vg
open Go Go.Proofs
theorem kid_sz (t : V.Term) (i : Nat) : sizeT (kAt t.kids i) ≤ sizeT t := by
  rcases Nat.lt_or_ge i t.kids.length with h | h
  · have h1 := sizeTs_at (ks := t.kids) (i := i) h
    have h2 := sz_kids t
    omega
  · have e : kAt t.kids i = K.terms.dflt := by
      show t.kids.getD i K.terms.dflt = _
      rw [List.getD_eq_getElem?_getD, List.getElem?_eq_none h]; rfl
    rw [e]
    have : sizeT K.terms.dflt = 1 := by show sizeT ⟨0, 0, 0, ByteArray.empty, []⟩ = 1; rw [sizeT, sizeTs]
    have := sizeT_pos t
    omega
theorem k0_sz (t : V.Term) : sizeT (k0 t) ≤ sizeT t := kid_sz t 0
theorem k1_sz (t : V.Term) : sizeT (k1 t) ≤ sizeT t := kid_sz t 1
theorem k2_sz (t : V.Term) : sizeT (k2 t) ≤ sizeT t := kid_sz t 2
theorem ite_sz {c : Prop} [Decidable c] {a b : V.Term × Bool} {x : V.Term} {N : Nat} (ha : a = (x, false) → sizeT x ≤ N) (hb : b = (x, false) → sizeT x ≤ N) (h : (if c then a else b) = (x, false)) : sizeT x ≤ N := by
  by_cases q : c
  · rw [if_pos q] at h; exact ha h
  · rw [if_neg q] at h; exact hb h
theorem red_sz {t x : V.Term} (hr : redS t = (x, false)) : sizeT x ≤ sizeT t := by
  unfold redS redU redI redC redW redJ redB at hr
  have hp := sizeT_pos t
  revert hr
  repeat' (refine ite_sz ?_ ?_)
  all_goals (intro hr; injection hr with h1 h2)
  all_goals first | (exact absurd h2 (by decide)) | (subst h1; first | exact Nat.le_refl _ | exact k0_sz _ | exact k1_sz _ | exact k2_sz _ | exact Nat.le_trans (k0_sz _) (k0_sz _) | (rw [sz_c]; exact hp))
theorem mkF_sz : ∀ (f : Nat) (t : V.Term), okT t = true → sizeT (mkF f t) ≤ sizeT t
  | 0, t, h => Nat.le_refl _
  | f + 1, t, h => by
    rw [mkF]
    by_cases c1 : t.kids.length = 0
    · rw [if_pos c1]; exact Nat.le_refl _
    rw [if_neg c1]
    have ho : 1 ≤ t.op ∧ t.op ≤ 21 := okT_op' h (fun e => c1 (by rw [e]; rfl))
    by_cases c2 : allC t.kids = true
    · rw [if_pos c2, sz_c]; exact sizeT_pos t
    rw [if_neg c2]
    by_cases c3 : (redS t).2 = true
    · rw [if_pos c3]
      have h1 := red_ok (x := (redS t).1) h ho (Prod.ext rfl c3)
      have h3 := mkF_sz f _ h1.1
      have h4 := h1.2
      unfold meas at h4
      split at h4 <;> split at h4 <;> omega
    · rw [if_neg c3]
      exact red_sz (x := (redS t).1) (Prod.ext rfl (by simpa using c3))
theorem mp_sz {op w n : Int} {ks : List V.Term} (h : (mkP op w n ks).2 = true) : sizeT (mkP op w n ks).1 ≤ 240 := by
  cases c : termP (oT op w n ks) with
  | true =>
    rw [mkP_y c]
    have h1 := mkF_sz (meas (oT op w n ks) + 1) _ (termP_ok c)
    unfold termP at c
    simp only [Bool.and_eq_true, decide_eq_true_eq] at c
    exact Nat.le_trans h1 c.1.1
  | false => rw [mkP_n c] at h; cases h
theorem nl_sz {a b : V.Term} (h : (nlP a b).2 = true) : sizeT (nlP a b).1 ≤ 240 := by
  cases c : (mkP 15 1 0 [a, b]).2 with
  | true => rw [nl_y c] at h ⊢; exact mp_sz h
  | false => rw [nl_n c] at h; cases h
theorem fq_sz {w k a b n : Int} {rg : List V.Term} (h : (ftP w k a b n rg).2 = true) : sizeT (ftP w k a b n rg).1 ≤ 240 := by
  by_cases c1 : k = 1
  · subst c1; exact mp_sz h
  by_cases c2 : k = 2
  · subst c2; exact mp_sz h
  by_cases c3 : k = 3
  · subst c3; exact nl_sz h
  by_cases c4 : k = 4
  · subst c4
    cases c : (mkP 19 1 b [rg.getD a.toNat K.terms.dflt]).2 with
    | true => rw [fq_4y c] at h ⊢; exact mp_sz h
    | false => rw [fq_4n c] at h; cases h
  by_cases c5 : k = 5
  · subst c5
    cases c : (mkP 3 w 0 [rg.getD a.toNat K.terms.dflt, rg.getD b.toNat K.terms.dflt]).2 with
    | true => rw [fq_5y c] at h ⊢; exact mp_sz h
    | false => rw [fq_5n c] at h; cases h
  rw [fq_6 c1 c2 c3 c4 c5] at h ⊢; exact nl_sz h
mutual
theorem cnt_size : ∀ t : V.Term, cntT t = 4 * sizeT t
  | ⟨_, _, _, _, ks⟩ => by
    have := cnts_size ks
    rw [cntT, sizeT]; omega
theorem cnts_size : ∀ l : List V.Term, cntTs l = 4 * sizeTs l
  | [] => by rw [cntTs, sizeTs]
  | t :: ts => by
    have h1 := cnt_size t
    have h2 := cnts_size ts
    rw [cntTs, sizeTs]; omega
end
theorem fq_cnt {w k a b n : Int} {rg : List V.Term} (h : (ftP w k a b n rg).2 = true) : cntTs (ftP w k a b n rg).1.kids ≤ 960 := by
  have h1 := fq_sz h
  have h2 := sz_kids (ftP w k a b n rg).1
  have h3 := cnts_size (ftP w k a b n rg).1.kids
  omega
/-! ### names -/
theorem nm_szs : ∀ {l : List V.Term}, szTs l ≤ 1048576 → nmTs l = true
  | [], _ => by rw [nmTs]
  | ⟨op, w, n, nm, ks⟩ :: ts, h => by
    rw [szTs, szT] at h
    rw [nmTs, nmT_eq, nm_szs (l := ts) (by omega)]
    rw [nm_szs (l := ks) (by omega), decide_eq_true (show nm.size ≤ 1048576 by omega)]; rfl
end Vg
