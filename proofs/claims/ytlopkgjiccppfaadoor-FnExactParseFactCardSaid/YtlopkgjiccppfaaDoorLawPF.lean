/- Facts are read: contracts of ParseFact, and of the law FnExactParseFact. Condition: texts and lists are no longer than the law lets through. -/
import Derived.Test.YtlopkgjiccppfaaDoorParP
namespace Vg
open Go Go.Proofs
theorem wk_y {l : List ByteArray} {k : Nat} (h : ((factW ((k + 1 : Nat) : Int)).toList == (l.getD (Int.toNat 1) K.strs.dflt).toList) = true) : wkTo (sAt l 1) (k + 1) = ((k + 1 : Nat) : Int) := if_pos (str_eq h)
theorem wk_n {l : List ByteArray} {k : Nat} (h : ((factW ((k + 1 : Nat) : Int)).toList == (l.getD (Int.toNat 1) K.strs.dflt).toList) = false) : wkTo (sAt l 1) (k + 1) = wkTo (sAt l 1) k := if_neg (str_ne h)
section
variable {l : List ByteArray} {k : Nat}
theorem k6 (hk : k ≤ 6) (hx : ¬ ((k + 1 : Nat) : Int) ≤ 6) : k = 6 := by omega
theorem raw_1 (hk : k ≤ 6) (hx : ¬ ((k + 1 : Nat) : Int) ≤ 6) (h : wkTo (sAt l 1) k = 1 ∨ wkTo (sAt l 1) k = 3) (h4 : (l.length : Int) = 4) : rawI l = ⟨wkTo (sAt l 1) k, opI (sAt l 0), 0, opI (l.getD (Int.toNat 3) K.strs.dflt)⟩ := by
  obtain rfl := k6 hk hx
  unfold rawI; rw [if_pos h, if_pos (by omega)]; rfl
theorem raw_2 (hk : k ≤ 6) (hx : ¬ ((k + 1 : Nat) : Int) ≤ 6) (h : wkTo (sAt l 1) k = 1 ∨ wkTo (sAt l 1) k = 3) (h4 : ¬ (l.length : Int) = 4) : rawI l = ⟨wkTo (sAt l 1) k, opI (sAt l 0), 0, opI (l.getD (Int.toNat 2) K.strs.dflt)⟩ := by
  obtain rfl := k6 hk hx
  unfold rawI; rw [if_pos h, if_neg (by omega), if_pos h]; rfl
theorem raw_3 (hk : k ≤ 6) (hx : ¬ ((k + 1 : Nat) : Int) ≤ 6) (h1 : ¬ wkTo (sAt l 1) k = 1) (h3 : ¬ wkTo (sAt l 1) k = 3) (h4 : (l.length : Int) = 4) : rawI l = ⟨wkTo (sAt l 1) k, opI (sAt l 0), opI (l.getD (Int.toNat 2) K.strs.dflt), opI (l.getD (Int.toNat 3) K.strs.dflt)⟩ := by
  obtain rfl := k6 hk hx
  unfold rawI; rw [if_neg (by omega), if_pos (by omega)]; rfl
theorem raw_4 (hk : k ≤ 6) (hx : ¬ ((k + 1 : Nat) : Int) ≤ 6) (h1 : ¬ wkTo (sAt l 1) k = 1) (h3 : ¬ wkTo (sAt l 1) k = 3) (h4 : ¬ (l.length : Int) = 4) : rawI l = ⟨wkTo (sAt l 1) k, opI (sAt l 0), opI (l.getD (Int.toNat 2) K.strs.dflt), 0⟩ := by
  obtain rfl := k6 hk hx
  unfold rawI; rw [if_neg (by omega), if_neg (by omega), if_neg (by omega)]; rfl
end
theorem fmt_ok {p : V.Prog} {f : V.Fact} {s : ByteArray} {l : List ByteArray} (hs : splB 32 s = l) (hl : ¬ (l.length : Int) < 3) (h : fmtS p f = s) : (progP p && factP p.w f) = true := by
  cases e : (progP p && factP p.w f) with
  | true => rfl
  | false =>
    unfold fmtS at h
    rw [e] at h
    subst h
    subst hs
    exfalso
    apply hl
    show ((splB 32 ⟨#[]⟩).length : Int) < 3
    decide
theorem rf_y {p : V.Prog} {f : V.Fact} {s : ByteArray} (hl : ¬ ((splB 32 s).length : Int) < 3) (h : ((fmtS p f).toList == s.toList) = true) : readF p s = (f, true) := readF_yes ⟨fmt_ok rfl hl (str_eq h), str_eq h⟩
theorem rf_n {p : V.Prog} {f : V.Fact} {s : ByteArray} (hr : rawI (splB 32 s) = f) (h : ((fmtS p f).toList == s.toList) = false) : readF p s = (⟨0, 0, 0, 0⟩, false) := readF_no fun g hg => by
  obtain ⟨l, e, _, r⟩ := text_r hg
  rw [e, r.rI] at hr
  subst hr
  exact str_ne h hg.eq
theorem rf_3 {p : V.Prog} {s : ByteArray} (hl : ((splB 32 s).length : Int) < 3) : readF p s = (⟨0, 0, 0, 0⟩, false) := readF_no fun g hg => by
  obtain ⟨l, e, _, r⟩ := text_r hg
  rw [e] at hl
  have := r.n3
  omega
theorem rf_4 {p : V.Prog} {s : ByteArray} (hl : ((splB 32 s).length : Int) > 4) : readF p s = (⟨0, 0, 0, 0⟩, false) := readF_no fun g hg => by
  obtain ⟨l, e, _, r⟩ := text_r hg
  rw [e] at hl
  have := r.n4
  omega
theorem at_len {l : List ByteArray} {s : ByteArray} {j : Int} (e : splB 32 s = l) (hs : s.size ≤ 1048576) (h : j.toNat < l.length) : (l.getD j.toNat K.strs.dflt).size ≤ 1048576 := by
  subst e
  exact Nat.le_trans (splB_at h) hs
set_option maxHeartbeats 4000000 in
set_option maxRecDepth 100000 in
theorem i_ParseFact (w mem inn : Int) (code : List V.Ins) (s : ByteArray) (hs : s.size ≤ 1048576) : CallsV Tryd.prog 12 [.agg [.dat (.i w), .dat (.i mem), .dat (.i inn), .dat (.seq .inss code)], .dat (.str s)] (.tup [.agg [.dat (.i (readF ⟨w, mem, inn, code⟩ s).1.kind), .dat (.i (readF ⟨w, mem, inn, code⟩ s).1.a), .dat (.i (readF ⟨w, mem, inn, code⟩ s).1.b), .dat (.i (readF ⟨w, mem, inn, code⟩ s).1.n)], .dat (.bool (readF ⟨w, mem, inn, code⟩ s).2)]) := by
  refine CallsV.of_awp tauOk mixOk Tryd.func12 rfl rfl rfl ?_
  conv => whnf
  repeat' (first
    | ((with_reducible refine Alt.l ?_); conv => whnf)
    | ((with_reducible refine fun (K1 : AX → AState → Prop) hK => ?_); conv => whnf)
    | ((with_reducible show K1 _ _); subst hK; conv => whnf)
    | (with_reducible exact rfl)
    | ((with_reducible refine sp_T ?_); conv => whnf)
    | ((with_reducible refine sp_F ?_); conv => whnf)
    | ((with_reducible refine sp_T' ?_); conv => whnf)
    | ((with_reducible refine sp_F' ?_); conv => whnf)
    | ((with_reducible refine sp_dF ?_ ?_); decide; conv => whnf)
    | ((with_reducible refine sp_dT ?_ ?_); decide; conv => whnf)
    | ((with_reducible refine sp_d (fun h => ?_) (fun h => ?_)) <;> first | contradiction | (subst h; conv => whnf) | (conv => whnf))
    | ((with_reducible refine sp_d' (fun h => ?_) (fun h => ?_)) <;> first | contradiction | (subst h; conv => whnf) | (conv => whnf))
    | ((with_reducible refine sp_eF ?_ ?_); decide; conv => whnf)
    | ((with_reducible refine sp_eT ?_); conv => whnf)
    | ((with_reducible refine sp_e (fun h => ?_) (fun h => ?_)) <;> first | contradiction | (subst h; conv => whnf) | (conv => whnf))
    | ((with_reducible refine sp_e' (fun h => ?_) (fun h => ?_)) <;> first | contradiction | (subst h; conv => whnf) | (conv => whnf))
    | ((with_reducible refine sp_n (fun h => ?_) (fun h => ?_)) <;> first | contradiction | (subst h; conv => whnf) | (conv => whnf))
    | ((with_reducible refine sp_n' (fun h => ?_) (fun h => ?_)) <;> first | contradiction | (subst h; conv => whnf) | (conv => whnf))
    | ((with_reducible refine sp_nb (fun h => ?_) (fun h => ?_)) <;> first | (exact Bool.noConfusion (Eq.trans (Eq.symm h) (show _ = true by with_reducible assumption))) | (exact Bool.noConfusion (Eq.trans (Eq.symm (show _ = false by with_reducible assumption)) h)) | (conv => whnf))
    | ((with_reducible refine sp_nb' (fun h => ?_) (fun h => ?_)) <;> first | (exact Bool.noConfusion (Eq.trans (Eq.symm h) (show _ = true by with_reducible assumption))) | (exact Bool.noConfusion (Eq.trans (Eq.symm (show _ = false by with_reducible assumption)) h)) | (conv => whnf))
    | ((with_reducible refine sp_b (fun h => ?_) (fun h => ?_)) <;> first | (exact Bool.noConfusion (Eq.trans (Eq.symm h) (show _ = true by with_reducible assumption))) | (exact Bool.noConfusion (Eq.trans (Eq.symm (show _ = false by with_reducible assumption)) h)) | (conv => whnf))
    | ((with_reducible refine sp_b' (fun h => ?_) (fun h => ?_)) <;> first | (exact Bool.noConfusion (Eq.trans (Eq.symm h) (show _ = true by with_reducible assumption))) | (exact Bool.noConfusion (Eq.trans (Eq.symm (show _ = false by with_reducible assumption)) h)) | (conv => whnf))
    | (refine ⟨(rfl : nodupB _ = true), rfl, ?_⟩; conv => whnf)
    | (with_reducible refine bnd2 ?_ ?_)
    | (with_reducible refine bnd2' ?_ ?_)
    | (with_reducible refine bndN ?_ ?_)
    | ((with_reducible refine and_of ?_ ?_); conv => whnf)
    | (refine Exists.intro ({k : Nat // k ≤ 6}) (Exists.intro (fun ⟨k, hk⟩ => mkS Tryd.f12.ntmps [(1, .dat (.str s)), (2, .ptr 2 0), (4, .ptr 4 0), (6, .row 106), (7, .ptr 7 0), (8, .dat (.i ((k + 1 : Nat) : Int)))] [(2, .box [.dat (.i w), .dat (.i mem), .dat (.i inn), .dat (.seq .inss code)]), (4, .box [.cell, .cell, .cell, .cell]), (7, .box [.dat (.i (wkTo (sAt (splB 32 s) 1) k)), .dat (.i (opI (sAt (splB 32 s) 0))), .dat (.i 0), .dat (.i 0)]), (106, .row 9 .strs (splB 32 s) false)]) (Exists.intro (fun ⟨k, hk⟩ => 6 - k) (Exists.intro ⟨0, Nat.zero_le _⟩ (And.intro (SubP.sub (σ := [(2, some 2), (4, some 4), (7, some 7), (106, some 11000)]) ⟨⟨rfl, rfl, rfl⟩, ⟨(wk_dat ?_), ⟨rfl, rfl⟩, ⟨rfl, rfl⟩, rfl, ⟨rfl, rfl⟩, (wk_dat ?_), trivial⟩, ⟨⟨(wkC_dat ?_), (wkC_dat ?_), (wkC_dat ?_), (wkC_dat ?_), trivial⟩, ⟨rfl, rfl, rfl, rfl, trivial⟩, ⟨(wkC_dat ?_), (wkC_dat ?_), (wkC_dat ?_), (wkC_dat ?_), trivial⟩, ⟨⟨rfl, rfl⟩, ?_⟩, trivial⟩⟩) (fun ⟨k, hk⟩ => ?_))))); rotate_right; conv => whnf)
    | (refine Exists.intro (⟨k + 1, ?_⟩ : {k : Nat // k ≤ 6}) (And.intro ?_ (SubP.sub (σ := [(2, some 2), (4, some 4), (7, some 7), (106, some 106)]) ⟨⟨rfl, rfl, rfl⟩, ⟨(wk_dat ?_), ⟨rfl, rfl⟩, ⟨rfl, rfl⟩, rfl, ⟨rfl, rfl⟩, (wk_dat ?_), trivial⟩, ⟨⟨(wkC_dat ?_), (wkC_dat ?_), (wkC_dat ?_), (wkC_dat ?_), trivial⟩, ⟨rfl, rfl, rfl, rfl, trivial⟩, ⟨(wkC_dat ?_), (wkC_dat ?_), (wkC_dat ?_), (wkC_dat ?_), trivial⟩, ⟨⟨rfl, rfl⟩, ?_⟩, trivial⟩⟩)))
    | ((with_reducible refine fcI (g := 29) ?_); refine ⟨_, _, f_Split (hs := ?_) .., rfl, fun res B hRB => ?_⟩; rotate_right; obtain ⟨rfl, rfl⟩ := hRB; conv => whnf)
    | ((with_reducible refine pcI (g := 30) ?_); refine ⟨_, i_parseOperand (hs := ?_) .., rfl, ?_⟩; rotate_right; conv => whnf)
    | ((with_reducible show Exists _); refine Exists.intro _ (And.intro (i_parseOperand (hs := ?_) ..) (And.intro rfl ?_)); rotate_right; conv => whnf)
    | ((with_reducible refine pcI (g := 23) ?_); refine ⟨_, i_factWord .., rfl, ?_⟩; rotate_right; conv => whnf)
    | ((with_reducible show Exists _); refine Exists.intro _ (And.intro (i_factWord ..) (And.intro rfl ?_)); rotate_right; conv => whnf)
    | ((with_reducible refine pcI (g := 9) ?_); refine ⟨_, i_FormatFact .., rfl, ?_⟩; rotate_right; conv => whnf)
    | ((with_reducible show Exists _); refine Exists.intro _ (And.intro (i_FormatFact ..) (And.intro rfl ?_)); rotate_right; conv => whnf)
    | ((with_reducible show awpOps _ _ _ _ _ _); conv => whnf)
    | (intro h; conv => whnf))
  all_goals (repeat (clear hK; clear K1))
  all_goals first
    | (with_reducible exact trivial)
    | (with_reducible assumption)
    | omega
    | (dsimp only; omega)
    | exact di_eq (wk_y (by with_reducible assumption))
    | exact di_eq (wk_n (by with_reducible assumption))
    | exact di_eq (by rw [wrap_id (by omega) (by omega)]; omega)
    | exact di_eq (rfl : ((0 + 1 : Nat) : Int) = 1)
    | exact at_len rfl hs (by omega)
    | (have q : readF ⟨w, mem, inn, code⟩ s = (⟨0, 0, 0, 0⟩, false) := (by first | exact rf_3 (by with_reducible assumption) | exact rf_4 (by with_reducible assumption) | exact rf_n (raw_1 hk (by with_reducible assumption) (.inl (by with_reducible assumption)) (by with_reducible assumption)) (by with_reducible assumption) | exact rf_n (raw_1 hk (by with_reducible assumption) (.inr (by with_reducible assumption)) (by with_reducible assumption)) (by with_reducible assumption) | exact rf_n (raw_2 hk (by with_reducible assumption) (.inl (by with_reducible assumption)) (by with_reducible assumption)) (by with_reducible assumption) | exact rf_n (raw_2 hk (by with_reducible assumption) (.inr (by with_reducible assumption)) (by with_reducible assumption)) (by with_reducible assumption) | exact rf_n (raw_3 hk (by with_reducible assumption) (by with_reducible assumption) (by with_reducible assumption) (by with_reducible assumption)) (by with_reducible assumption) | exact rf_n (raw_4 hk (by with_reducible assumption) (by with_reducible assumption) (by with_reducible assumption) (by with_reducible assumption)) (by with_reducible assumption)); first | exact db_eq (by rw [q]) | exact ⟨di_eq (by rw [q]), di_eq (by rw [q]), di_eq (by rw [q]), di_eq (by rw [q]), trivial⟩)
    | (have q := rf_y (p := ⟨w, mem, inn, code⟩) (s := s) (by with_reducible assumption) (by with_reducible assumption); first | exact db_eq (by rw [q]) | exact ⟨di_eq (by rw [q]), di_eq (by rw [q]), di_eq (by rw [q]), di_eq (by rw [q]), trivial⟩)
    | rfl
    | skip
section
variable {l : List ByteArray} {k : Nat}
theorem raS_1 (hk : k ≤ 6) (hx : ¬ ((k + 1 : Nat) : Int) ≤ 6) (h4 : (l.length : Int) = 4) : rawS l = ⟨wkTo (sAt l 1) k, numX (sAt l 0), numX (l.getD (Int.toNat 2) K.strs.dflt), numX (l.getD (Int.toNat 3) K.strs.dflt)⟩ := by
  obtain rfl := k6 hk hx
  unfold rawS; rw [if_pos (by omega)]; rfl
theorem raS_2 (hk : k ≤ 6) (hx : ¬ ((k + 1 : Nat) : Int) ≤ 6) (h : wkTo (sAt l 1) k = 1 ∨ wkTo (sAt l 1) k = 3) (h4 : ¬ (l.length : Int) = 4) : rawS l = ⟨wkTo (sAt l 1) k, numX (sAt l 0), 0, numX (l.getD (Int.toNat 2) K.strs.dflt)⟩ := by
  obtain rfl := k6 hk hx
  unfold rawS; rw [if_neg (by omega), if_pos h]; rfl
theorem raS_3 (hk : k ≤ 6) (hx : ¬ ((k + 1 : Nat) : Int) ≤ 6) (h1 : ¬ wkTo (sAt l 1) k = 1) (h3 : ¬ wkTo (sAt l 1) k = 3) (h4 : ¬ (l.length : Int) = 4) : rawS l = ⟨wkTo (sAt l 1) k, numX (sAt l 0), numX (l.getD (Int.toNat 2) K.strs.dflt), 0⟩ := by
  obtain rfl := k6 hk hx
  unfold rawS; rw [if_neg (by omega), if_neg (by omega)]; rfl
end
theorem sf_y {p : V.Prog} {f : V.Fact} {s : ByteArray} (ho : (progP p && factP p.w f) = true) (h : ((fmtS p f).toList == s.toList) = true) : readF p s = (f, true) := readF_yes ⟨ho, str_eq h⟩
theorem sf_n {p : V.Prog} {f : V.Fact} {s : ByteArray} (hr : rawS (wordsP s) = f) (h : ((fmtS p f).toList == s.toList) = false) : readF p s = (⟨0, 0, 0, 0⟩, false) := readF_no fun g hg => by
  obtain ⟨l, _, e, r⟩ := text_r hg
  rw [e, r.rS] at hr
  subst hr
  exact str_ne h hg.eq
theorem sf_o {p : V.Prog} {f : V.Fact} {s : ByteArray} (hr : rawS (wordsP s) = f) (h : (progP p && factP p.w f) = false) : readF p s = (⟨0, 0, 0, 0⟩, false) := readF_no fun g hg => by
  obtain ⟨l, _, e, r⟩ := text_r hg
  rw [e, r.rS] at hr
  subst hr
  rw [hg.ok] at h
  cases h
theorem sf_k {p : V.Prog} {f : V.Fact} {s : ByteArray} (hr : rawS (wordsP s) = f) (h : f.kind = 0) : readF p s = (⟨0, 0, 0, 0⟩, false) := readF_no fun g hg => by
  obtain ⟨l, _, e, r⟩ := text_r hg
  rw [e, r.rS] at hr
  subst hr
  have := (fact_r hg.ok).k
  omega
theorem sf_l {p : V.Prog} {s : ByteArray} (hl : inP ((wordsP s).length : Int) 3 4 = false) : readF p s = (⟨0, 0, 0, 0⟩, false) := readF_no fun g hg => by
  obtain ⟨l, _, e, r⟩ := text_r hg
  rw [e] at hl
  have := r.n3
  have := r.n4
  simp [inP] at hl
  omega
theorem in34 {n : Nat} (h : inP (n : Int) 3 4 = true) : 3 ≤ n ∧ n ≤ 4 := by simp [inP] at h; omega
theorem wat_len {l : List ByteArray} {s : ByteArray} {j : Int} (e : wordsP s = l) (hs : s.size ≤ 1048576) (h : j.toNat < l.length) : (l.getD j.toNat K.strs.dflt).size ≤ 1048576 := by
  subst e
  have hm : ∀ x ∈ wordsP s, x.size ≤ s.size := fun x hx => by
    obtain ⟨y, hy, rfl⟩ := List.mem_map.1 hx
    exact splB_le (c := 32) (s := s) (List.mem_map.2 ⟨y, (List.mem_filter.1 hy).1, rfl⟩)
  rw [List.getD_eq_getElem?_getD, List.getElem?_eq_getElem h]
  exact Nat.le_trans (hm _ (List.getElem_mem h)) hs
set_option maxHeartbeats 4000000 in
set_option maxRecDepth 100000 in
theorem s_ParseFact (w mem inn : Int) (code : List V.Ins) (s : ByteArray) (hs : s.size ≤ 1048576) : CallsV Tryd.prog 11 [.agg [.dat (.i w), .dat (.i mem), .dat (.i inn), .dat (.seq .inss code)], .dat (.str s)] (.tup [.agg [.dat (.i (readF ⟨w, mem, inn, code⟩ s).1.kind), .dat (.i (readF ⟨w, mem, inn, code⟩ s).1.a), .dat (.i (readF ⟨w, mem, inn, code⟩ s).1.b), .dat (.i (readF ⟨w, mem, inn, code⟩ s).1.n)], .dat (.bool (readF ⟨w, mem, inn, code⟩ s).2)]) := by
  refine CallsV.of_awp tauOk mixOk Tryd.func11 rfl rfl rfl ?_
  conv => whnf
  repeat' (first
    | ((with_reducible refine Alt.l ?_); conv => whnf)
    | ((with_reducible refine fun (K1 : AX → AState → Prop) hK => ?_); conv => whnf)
    | ((with_reducible show K1 _ _); subst hK; conv => whnf)
    | (with_reducible exact rfl)
    | ((with_reducible refine sp_T ?_); conv => whnf)
    | ((with_reducible refine sp_F ?_); conv => whnf)
    | ((with_reducible refine sp_T' ?_); conv => whnf)
    | ((with_reducible refine sp_F' ?_); conv => whnf)
    | ((with_reducible refine sp_dF ?_ ?_); decide; conv => whnf)
    | ((with_reducible refine sp_dT ?_ ?_); decide; conv => whnf)
    | ((with_reducible refine sp_d (fun h => ?_) (fun h => ?_)) <;> first | contradiction | (subst h; conv => whnf) | (conv => whnf))
    | ((with_reducible refine sp_d' (fun h => ?_) (fun h => ?_)) <;> first | contradiction | (subst h; conv => whnf) | (conv => whnf))
    | ((with_reducible refine sp_eF ?_ ?_); decide; conv => whnf)
    | ((with_reducible refine sp_eT ?_); conv => whnf)
    | ((with_reducible refine sp_e (fun h => ?_) (fun h => ?_)) <;> first | contradiction | (subst h; conv => whnf) | (conv => whnf))
    | ((with_reducible refine sp_e' (fun h => ?_) (fun h => ?_)) <;> first | contradiction | (subst h; conv => whnf) | (conv => whnf))
    | ((with_reducible refine sp_n (fun h => ?_) (fun h => ?_)) <;> first | contradiction | (subst h; conv => whnf) | (conv => whnf))
    | ((with_reducible refine sp_n' (fun h => ?_) (fun h => ?_)) <;> first | contradiction | (subst h; conv => whnf) | (conv => whnf))
    | ((with_reducible refine sp_nb (fun h => ?_) (fun h => ?_)) <;> first | (exact Bool.noConfusion (Eq.trans (Eq.symm h) (show _ = true by with_reducible assumption))) | (exact Bool.noConfusion (Eq.trans (Eq.symm (show _ = false by with_reducible assumption)) h)) | (conv => whnf))
    | ((with_reducible refine sp_nb' (fun h => ?_) (fun h => ?_)) <;> first | (exact Bool.noConfusion (Eq.trans (Eq.symm h) (show _ = true by with_reducible assumption))) | (exact Bool.noConfusion (Eq.trans (Eq.symm (show _ = false by with_reducible assumption)) h)) | (conv => whnf))
    | ((with_reducible refine sp_b (fun h => ?_) (fun h => ?_)) <;> first | (exact Bool.noConfusion (Eq.trans (Eq.symm h) (show _ = true by with_reducible assumption))) | (exact Bool.noConfusion (Eq.trans (Eq.symm (show _ = false by with_reducible assumption)) h)) | (conv => whnf))
    | ((with_reducible refine sp_b' (fun h => ?_) (fun h => ?_)) <;> first | (exact Bool.noConfusion (Eq.trans (Eq.symm h) (show _ = true by with_reducible assumption))) | (exact Bool.noConfusion (Eq.trans (Eq.symm (show _ = false by with_reducible assumption)) h)) | (conv => whnf))
    | (refine ⟨(rfl : nodupB _ = true), rfl, ?_⟩; conv => whnf)
    | (with_reducible refine bnd2 ?_ ?_)
    | (with_reducible refine bnd2' ?_ ?_)
    | (with_reducible refine bndN ?_ ?_)
    | ((with_reducible refine and_of ?_ ?_); conv => whnf)
    | (refine Exists.intro ({k : Nat // k ≤ 6}) (Exists.intro (fun ⟨k, hk⟩ => mkS Tryd.f11.ntmps [(1, .dat (.str s)), (2, .ptr 2 0), (4, .ptr 4 0), (6, .row 106), (7, .ptr 7 0), (8, .dat (.i ((k + 1 : Nat) : Int)))] [(2, .box [.dat (.i w), .dat (.i mem), .dat (.i inn), .dat (.seq .inss code)]), (4, .box [.cell, .cell, .cell, .cell]), (7, .box [.dat (.i (wkTo (sAt (wordsP s) 1) k)), .dat (.i (numX (sAt (wordsP s) 0))), .dat (.i 0), .dat (.i 0)]), (106, .row 9 .strs (wordsP s) false)]) (Exists.intro (fun ⟨k, hk⟩ => 6 - k) (Exists.intro ⟨0, Nat.zero_le _⟩ (And.intro (SubP.sub (σ := [(2, some 2), (4, some 4), (7, some 7), (106, some 11000)]) ⟨⟨rfl, rfl, rfl⟩, ⟨(wk_dat ?_), ⟨rfl, rfl⟩, ⟨rfl, rfl⟩, rfl, ⟨rfl, rfl⟩, (wk_dat ?_), trivial⟩, ⟨⟨(wkC_dat ?_), (wkC_dat ?_), (wkC_dat ?_), (wkC_dat ?_), trivial⟩, ⟨rfl, rfl, rfl, rfl, trivial⟩, ⟨(wkC_dat ?_), (wkC_dat ?_), (wkC_dat ?_), (wkC_dat ?_), trivial⟩, ⟨⟨rfl, rfl⟩, ?_⟩, trivial⟩⟩) (fun ⟨k, hk⟩ => ?_))))); rotate_right; conv => whnf)
    | (refine Exists.intro (⟨k + 1, ?_⟩ : {k : Nat // k ≤ 6}) (And.intro ?_ (SubP.sub (σ := [(2, some 2), (4, some 4), (7, some 7), (106, some 106)]) ⟨⟨rfl, rfl, rfl⟩, ⟨(wk_dat ?_), ⟨rfl, rfl⟩, ⟨rfl, rfl⟩, rfl, ⟨rfl, rfl⟩, (wk_dat ?_), trivial⟩, ⟨⟨(wkC_dat ?_), (wkC_dat ?_), (wkC_dat ?_), (wkC_dat ?_), trivial⟩, ⟨rfl, rfl, rfl, rfl, trivial⟩, ⟨(wkC_dat ?_), (wkC_dat ?_), (wkC_dat ?_), (wkC_dat ?_), trivial⟩, ⟨⟨rfl, rfl⟩, ?_⟩, trivial⟩⟩)))
    | ((with_reducible refine fcI (g := 26) ?_); refine ⟨_, _, s_Words (hs := ?_) .., rfl, fun res B hRB => ?_⟩; rotate_right; obtain ⟨rfl, rfl⟩ := hRB; conv => whnf)
    | ((with_reducible refine pcI (g := 27) ?_); refine ⟨_, s_l01In .., rfl, ?_⟩; rotate_right; conv => whnf)
    | ((with_reducible show Exists _); refine Exists.intro _ (And.intro (s_l01In ..) (And.intro rfl ?_)); rotate_right; conv => whnf)
    | ((with_reducible refine pcI (g := 28) ?_); refine ⟨_, s_l05Number (hs := ?_) .., rfl, ?_⟩; rotate_right; conv => whnf)
    | ((with_reducible show Exists _); refine Exists.intro _ (And.intro (s_l05Number (hs := ?_) ..) (And.intro rfl ?_)); rotate_right; conv => whnf)
    | ((with_reducible refine pcI (g := 17) ?_); refine ⟨_, s_l08Word (h0 := ?_) (h1 := ?_) .., rfl, ?_⟩; rotate_right; conv => whnf)
    | ((with_reducible show Exists _); refine Exists.intro _ (And.intro (s_l08Word (h0 := ?_) (h1 := ?_) ..) (And.intro rfl ?_)); rotate_right; conv => whnf)
    | ((with_reducible refine pcI (g := 15) ?_); refine ⟨_, s_FactOk .., rfl, ?_⟩; rotate_right; conv => whnf)
    | ((with_reducible show Exists _); refine Exists.intro _ (And.intro (s_FactOk ..) (And.intro rfl ?_)); rotate_right; conv => whnf)
    | ((with_reducible refine pcI (g := 6) ?_); refine ⟨_, s_FormatFact .., rfl, ?_⟩; rotate_right; conv => whnf)
    | ((with_reducible show Exists _); refine Exists.intro _ (And.intro (s_FormatFact ..) (And.intro rfl ?_)); rotate_right; conv => whnf)
    | ((with_reducible show awpOps _ _ _ _ _ _); conv => whnf)
    | (intro h; conv => whnf))
  all_goals (repeat (clear hK; clear K1))
  all_goals first
    | (with_reducible exact trivial)
    | (with_reducible assumption)
    | omega
    | (dsimp only; omega)
    | exact di_eq (wk_y (by with_reducible assumption))
    | exact di_eq (wk_n (by with_reducible assumption))
    | exact di_eq (by rw [wrap_id (by omega) (by omega)]; omega)
    | exact di_eq (rfl : ((0 + 1 : Nat) : Int) = 1)
    | (have q34 := in34 (by with_reducible assumption); first | omega | exact wat_len rfl hs (by omega))
    | (have q : readF ⟨w, mem, inn, code⟩ s = (⟨0, 0, 0, 0⟩, false) := (by first | exact sf_l (by with_reducible assumption) | exact sf_n (raS_1 hk (by with_reducible assumption) (by with_reducible assumption)) (by with_reducible assumption) | exact sf_o (raS_1 hk (by with_reducible assumption) (by with_reducible assumption)) (by with_reducible assumption) | exact sf_k (raS_1 hk (by with_reducible assumption) (by with_reducible assumption)) (by with_reducible assumption) | exact sf_n (raS_2 hk (by with_reducible assumption) (.inl (by with_reducible assumption)) (by with_reducible assumption)) (by with_reducible assumption) | exact sf_o (raS_2 hk (by with_reducible assumption) (.inl (by with_reducible assumption)) (by with_reducible assumption)) (by with_reducible assumption) | exact sf_k (raS_2 hk (by with_reducible assumption) (.inl (by with_reducible assumption)) (by with_reducible assumption)) (by with_reducible assumption) | exact sf_n (raS_2 hk (by with_reducible assumption) (.inr (by with_reducible assumption)) (by with_reducible assumption)) (by with_reducible assumption) | exact sf_o (raS_2 hk (by with_reducible assumption) (.inr (by with_reducible assumption)) (by with_reducible assumption)) (by with_reducible assumption) | exact sf_k (raS_2 hk (by with_reducible assumption) (.inr (by with_reducible assumption)) (by with_reducible assumption)) (by with_reducible assumption) | exact sf_n (raS_3 hk (by with_reducible assumption) (by with_reducible assumption) (by with_reducible assumption) (by with_reducible assumption)) (by with_reducible assumption) | exact sf_o (raS_3 hk (by with_reducible assumption) (by with_reducible assumption) (by with_reducible assumption) (by with_reducible assumption)) (by with_reducible assumption) | exact sf_k (raS_3 hk (by with_reducible assumption) (by with_reducible assumption) (by with_reducible assumption) (by with_reducible assumption)) (by with_reducible assumption)); first | exact db_eq (by rw [q]) | exact ⟨di_eq (by rw [q]), di_eq (by rw [q]), di_eq (by rw [q]), di_eq (by rw [q]), trivial⟩)
    | (have q := sf_y (p := ⟨w, mem, inn, code⟩) (s := s) (by with_reducible assumption) (by with_reducible assumption); first | exact db_eq (by rw [q]) | exact ⟨di_eq (by rw [q]), di_eq (by rw [q]), di_eq (by rw [q]), di_eq (by rw [q]), trivial⟩)
    | rfl
    | skip
set_option maxRecDepth 100000 in
theorem l_eqFact (op a b c op' a' b' c' : Int) : CallsV Tryd.prog 13 [.agg [.dat (.i op), .dat (.i a), .dat (.i b), .dat (.i c)], .agg [.dat (.i op'), .dat (.i a'), .dat (.i b'), .dat (.i c')]] (.dat (.bool (decide ((⟨op, a, b, c⟩ : V.Fact) = ⟨op', a', b', c'⟩)))) := by
  refine CallsV.of_awp tauOk mixOk Tryd.func13 rfl rfl rfl ?_
  conv => whnf
  repeat' (first
    | ((with_reducible refine Alt.l ?_); conv => whnf)
    | ((with_reducible refine fun (K1 : AX → AState → Prop) hK => ?_); conv => whnf)
    | ((with_reducible show K1 _ _); subst hK; conv => whnf)
    | (with_reducible exact rfl)
    | ((with_reducible refine sp_T ?_); conv => whnf)
    | ((with_reducible refine sp_F ?_); conv => whnf)
    | ((with_reducible refine sp_T' ?_); conv => whnf)
    | ((with_reducible refine sp_F' ?_); conv => whnf)
    | ((with_reducible refine sp_dF ?_ ?_); decide; conv => whnf)
    | ((with_reducible refine sp_dT ?_ ?_); decide; conv => whnf)
    | ((with_reducible refine sp_d (fun h => ?_) (fun h => ?_)) <;> first | contradiction | (subst h; conv => whnf) | (conv => whnf))
    | ((with_reducible refine sp_d' (fun h => ?_) (fun h => ?_)) <;> first | contradiction | (subst h; conv => whnf) | (conv => whnf))
    | ((with_reducible refine sp_eF ?_ ?_); decide; conv => whnf)
    | ((with_reducible refine sp_eT ?_); conv => whnf)
    | ((with_reducible refine sp_e (fun h => ?_) (fun h => ?_)) <;> first | contradiction | (subst h; conv => whnf) | (conv => whnf))
    | ((with_reducible refine sp_e' (fun h => ?_) (fun h => ?_)) <;> first | contradiction | (subst h; conv => whnf) | (conv => whnf))
    | ((with_reducible refine sp_n (fun h => ?_) (fun h => ?_)) <;> first | contradiction | (subst h; conv => whnf) | (conv => whnf))
    | ((with_reducible refine sp_n' (fun h => ?_) (fun h => ?_)) <;> first | contradiction | (subst h; conv => whnf) | (conv => whnf))
    | ((with_reducible refine sp_nb (fun h => ?_) (fun h => ?_)) <;> first | (exact Bool.noConfusion (Eq.trans (Eq.symm h) (show _ = true by with_reducible assumption))) | (exact Bool.noConfusion (Eq.trans (Eq.symm (show _ = false by with_reducible assumption)) h)) | (conv => whnf))
    | ((with_reducible refine sp_nb' (fun h => ?_) (fun h => ?_)) <;> first | (exact Bool.noConfusion (Eq.trans (Eq.symm h) (show _ = true by with_reducible assumption))) | (exact Bool.noConfusion (Eq.trans (Eq.symm (show _ = false by with_reducible assumption)) h)) | (conv => whnf))
    | ((with_reducible refine sp_b (fun h => ?_) (fun h => ?_)) <;> first | (exact Bool.noConfusion (Eq.trans (Eq.symm h) (show _ = true by with_reducible assumption))) | (exact Bool.noConfusion (Eq.trans (Eq.symm (show _ = false by with_reducible assumption)) h)) | (conv => whnf))
    | ((with_reducible refine sp_b' (fun h => ?_) (fun h => ?_)) <;> first | (exact Bool.noConfusion (Eq.trans (Eq.symm h) (show _ = true by with_reducible assumption))) | (exact Bool.noConfusion (Eq.trans (Eq.symm (show _ = false by with_reducible assumption)) h)) | (conv => whnf))
    | (refine ⟨(rfl : nodupB _ = true), rfl, ?_⟩; conv => whnf)
    | (with_reducible refine bnd2 ?_ ?_)
    | (with_reducible refine bnd2' ?_ ?_)
    | (with_reducible refine bndN ?_ ?_)
    | ((with_reducible refine and_of ?_ ?_); conv => whnf)
    | ((with_reducible show awpOps _ _ _ _ _ _); conv => whnf)
    | (intro h; conv => whnf))
  all_goals (repeat (clear hK; clear K1))
  all_goals first
      | rfl
      | assumption
      | exact Bool.noConfusion (h.symm.trans hp)
      | (simp_all []; done)
      | grind []
      | (simp_all []; omega)
theorem readF_eta (p : V.Prog) (s : ByteArray) : decide ((⟨(readF p s).1.kind, (readF p s).1.a, (readF p s).1.b, (readF p s).1.n⟩ : V.Fact) = ⟨(readF p s).1.kind, (readF p s).1.a, (readF p s).1.b, (readF p s).1.n⟩) = true := decide_eq_true rfl
set_option maxHeartbeats 4000000 in
set_option maxRecDepth 100000 in
theorem law_PF (w mem inn : Int) (c : List V.Ins) (s : ByteArray) : CallsV Tryd.prog 4 [.agg [.dat (.i w), .dat (.i mem), .dat (.i inn), .dat (.seq .inss c)], .dat (.str s)] (.dat (.bool true)) := by
  refine CallsV.of_awp tauOk mixOk Tryd.func4 rfl rfl rfl ?_
  conv => whnf
  repeat' (first
    | ((with_reducible refine Alt.l ?_); conv => whnf)
    | ((with_reducible refine fun (K1 : AX → AState → Prop) hK => ?_); conv => whnf)
    | ((with_reducible show K1 _ _); subst hK; conv => whnf)
    | (with_reducible exact rfl)
    | ((with_reducible refine sp_T ?_); conv => whnf)
    | ((with_reducible refine sp_F ?_); conv => whnf)
    | ((with_reducible refine sp_T' ?_); conv => whnf)
    | ((with_reducible refine sp_F' ?_); conv => whnf)
    | ((with_reducible refine sp_dF ?_ ?_); decide; conv => whnf)
    | ((with_reducible refine sp_dT ?_ ?_); decide; conv => whnf)
    | ((with_reducible refine sp_d (fun h => ?_) (fun h => ?_)) <;> first | contradiction | (subst h; conv => whnf) | (conv => whnf))
    | ((with_reducible refine sp_d' (fun h => ?_) (fun h => ?_)) <;> first | contradiction | (subst h; conv => whnf) | (conv => whnf))
    | ((with_reducible refine sp_eF ?_ ?_); decide; conv => whnf)
    | ((with_reducible refine sp_eT ?_); conv => whnf)
    | ((with_reducible refine sp_e (fun h => ?_) (fun h => ?_)) <;> first | contradiction | (subst h; conv => whnf) | (conv => whnf))
    | ((with_reducible refine sp_e' (fun h => ?_) (fun h => ?_)) <;> first | contradiction | (subst h; conv => whnf) | (conv => whnf))
    | ((with_reducible refine sp_n (fun h => ?_) (fun h => ?_)) <;> first | contradiction | (subst h; conv => whnf) | (conv => whnf))
    | ((with_reducible refine sp_n' (fun h => ?_) (fun h => ?_)) <;> first | contradiction | (subst h; conv => whnf) | (conv => whnf))
    | ((with_reducible refine sp_nb (fun h => ?_) (fun h => ?_)) <;> first | (exact Bool.noConfusion (Eq.trans (Eq.symm h) (show _ = true by with_reducible assumption))) | (exact Bool.noConfusion (Eq.trans (Eq.symm (show _ = false by with_reducible assumption)) h)) | (conv => whnf))
    | ((with_reducible refine sp_nb' (fun h => ?_) (fun h => ?_)) <;> first | (exact Bool.noConfusion (Eq.trans (Eq.symm h) (show _ = true by with_reducible assumption))) | (exact Bool.noConfusion (Eq.trans (Eq.symm (show _ = false by with_reducible assumption)) h)) | (conv => whnf))
    | ((with_reducible refine sp_b (fun h => ?_) (fun h => ?_)) <;> first | (exact Bool.noConfusion (Eq.trans (Eq.symm h) (show _ = true by with_reducible assumption))) | (exact Bool.noConfusion (Eq.trans (Eq.symm (show _ = false by with_reducible assumption)) h)) | (conv => whnf))
    | ((with_reducible refine sp_b' (fun h => ?_) (fun h => ?_)) <;> first | (exact Bool.noConfusion (Eq.trans (Eq.symm h) (show _ = true by with_reducible assumption))) | (exact Bool.noConfusion (Eq.trans (Eq.symm (show _ = false by with_reducible assumption)) h)) | (conv => whnf))
    | (refine ⟨(rfl : nodupB _ = true), rfl, ?_⟩; conv => whnf)
    | (with_reducible refine bnd2 ?_ ?_)
    | (with_reducible refine bnd2' ?_ ?_)
    | (with_reducible refine bndN ?_ ?_)
    | ((with_reducible refine and_of ?_ ?_); conv => whnf)
    | ((with_reducible refine pcI (g := 5) ?_); refine ⟨_, l_szProgram (h0 := ?_) (h1 := ?_) .., rfl, ?_⟩; rotate_right; conv => whnf)
    | ((with_reducible show Exists _); refine Exists.intro _ (And.intro (l_szProgram (h0 := ?_) (h1 := ?_) ..) (And.intro rfl ?_)); rotate_right; conv => whnf)
    | ((with_reducible refine pcI (g := 11) ?_); refine ⟨_, s_ParseFact (hs := ?_) .., rfl, ?_⟩; rotate_right; conv => whnf)
    | ((with_reducible show Exists _); refine Exists.intro _ (And.intro (s_ParseFact (hs := ?_) ..) (And.intro rfl ?_)); rotate_right; conv => whnf)
    | ((with_reducible refine pcI (g := 7) ?_); refine ⟨_, l_toProgram (hl := ?_) .., rfl, ?_⟩; rotate_right; conv => whnf)
    | ((with_reducible show Exists _); refine Exists.intro _ (And.intro (l_toProgram (hl := ?_) ..) (And.intro rfl ?_)); rotate_right; conv => whnf)
    | ((with_reducible refine pcI (g := 12) ?_); refine ⟨_, i_ParseFact (hs := ?_) .., rfl, ?_⟩; rotate_right; conv => whnf)
    | ((with_reducible show Exists _); refine Exists.intro _ (And.intro (i_ParseFact (hs := ?_) ..) (And.intro rfl ?_)); rotate_right; conv => whnf)
    | ((with_reducible refine pcI (g := 13) ?_); refine ⟨_, l_eqFact .., rfl, ?_⟩; rotate_right; conv => whnf)
    | ((with_reducible show Exists _); refine Exists.intro _ (And.intro (l_eqFact ..) (And.intro rfl ?_)); rotate_right; conv => whnf)
    | ((with_reducible refine pcI (g := 10) ?_); refine ⟨_, l_eqProgram .., rfl, ?_⟩; rotate_right; conv => whnf)
    | ((with_reducible show Exists _); refine Exists.intro _ (And.intro (l_eqProgram ..) (And.intro rfl ?_)); rotate_right; conv => whnf)
    | ((with_reducible show awpOps _ _ _ _ _ _); conv => whnf)
    | (intro h; conv => whnf))
  all_goals (repeat (clear hK; clear K1))
  all_goals first
    | omega
    | (simp at h; done)
    | (split at h <;> omega)
    | skip
end Vg
