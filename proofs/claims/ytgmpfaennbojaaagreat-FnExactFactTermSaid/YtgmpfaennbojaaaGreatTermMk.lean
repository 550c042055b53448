/- Terms are made: what is made of a good term is good; MakeTerm of the program and of the reference, copies. Conditions: short names, good terms. -/
import Derived.Test.YtgmpfaennbojaaaGreatTermRd
import Derived.Test.YtgmpfaennbojaaaGreatTermMS
namespace Vg
open Go Go.Proofs
theorem yes_no {α : Type} {a x : α} {P : Prop} (h : (a, true) = (x, false)) : P := by simp at h
theorem is_no {α : Type} {a x : α} (h : (a, false) = (x, false)) : x = a := by simp at h; exact h.symm
theorem one_word : wordP 1 1 = true := by decide
theorem red_no {t x : V.Term} (h : okT t = true) (ho : 1 ≤ t.op ∧ t.op ≤ 21) (hr : redS t = (x, false)) : okT x = true ∧ x.w = t.w := by
  have a0 := ok0 h ho
  unfold redS at hr
  by_cases c1 : t.op = 1 ∨ t.op = 2
  · rw [if_pos c1] at hr
    unfold redU at hr
    have e := fit_u h c1
    rcases ite_or hr with ⟨c, hr⟩ | ⟨_, hr⟩
    · obtain rfl := is_no hr
      have f := fit_u a0 (by omega)
      exact ⟨ok0 a0 (by omega), by omega⟩
    · obtain rfl := is_no hr; exact ⟨h, rfl⟩
  rw [if_neg c1] at hr
  by_cases c2 : t.op = 17
  · rw [if_pos c2] at hr
    have e := fit_i h c2
    unfold redI at hr
    rcases ite_or hr with ⟨c, hr⟩ | ⟨c, hr⟩
    · obtain rfl := is_no hr; exact ⟨ok1 h (by omega), e.2.1⟩
    rcases ite_or hr with ⟨c, hr⟩ | ⟨c, hr⟩
    · obtain rfl := is_no hr; exact ⟨ok2 h (by omega), e.2.2⟩
    rcases ite_or hr with ⟨c, hr⟩ | ⟨c, hr⟩
    · obtain rfl := is_no hr; exact ⟨ok1 h (by omega), e.2.1⟩
    rcases ite_or hr with ⟨c, hr⟩ | ⟨c, hr⟩
    · exact yes_no hr
    rcases ite_or hr with ⟨c, hr⟩ | ⟨c, hr⟩
    · obtain rfl := is_no hr; exact ⟨a0, by omega⟩
    rcases ite_or hr with ⟨c, hr⟩ | ⟨c, hr⟩
    · exact yes_no hr
    · obtain rfl := is_no hr; exact ⟨h, rfl⟩
  rw [if_neg c2] at hr
  by_cases c3 : t.op = 19
  · rw [if_pos c3] at hr
    unfold redC at hr
    rcases ite_or hr with ⟨c, hr⟩ | ⟨c, hr⟩
    · obtain rfl := is_no hr; exact ⟨a0, c.2.symm⟩
    rcases ite_or hr with ⟨c, hr⟩ | ⟨c, hr⟩
    · exact yes_no hr
    rcases ite_or hr with ⟨c, hr⟩ | ⟨c, hr⟩
    · exact yes_no hr
    rcases ite_or hr with ⟨c, hr⟩ | ⟨c, hr⟩
    · exact yes_no hr
    rcases ite_or hr with ⟨c, hr⟩ | ⟨c, hr⟩
    · exact yes_no hr
    · obtain rfl := is_no hr; exact ⟨h, rfl⟩
  rw [if_neg c3] at hr
  by_cases c4 : t.op = 20 ∨ t.op = 21
  · rw [if_pos c4] at hr
    unfold redW at hr
    rcases ite_or hr with ⟨c, hr⟩ | ⟨c, hr⟩
    · obtain rfl := is_no hr; exact ⟨a0, c.symm⟩
    rcases ite_or hr with ⟨c, hr⟩ | ⟨c, hr⟩
    · exact yes_no hr
    · obtain rfl := is_no hr; exact ⟨h, rfl⟩
  rw [if_neg c4] at hr
  by_cases c5 : t.op = 18
  · rw [if_pos c5] at hr
    unfold redJ at hr
    rcases ite_or hr with ⟨c, hr⟩ | ⟨c, hr⟩
    · exact yes_no hr
    · obtain rfl := is_no hr; exact ⟨h, rfl⟩
  rw [if_neg c5] at hr
  have a1 := ok1 h (by omega)
  have fb := fun q => fit_b h q
  have fr := fun q => fit_r h q
  unfold redB at hr
  rcases ite_or hr with ⟨c, hr⟩ | ⟨c, hr⟩
  · exact yes_no hr
  rcases ite_or hr with ⟨c, hr⟩ | ⟨c, hr⟩
  · obtain rfl := is_no hr
    refine ⟨a1, ?_⟩
    by_cases q : t.op = 14
    · have := fr (by omega); omega
    · exact (fb (by omega)).2
  rcases ite_or hr with ⟨c, hr⟩ | ⟨c, hr⟩
  · obtain rfl := is_no hr; exact ⟨mk_c (zero_word (okT_w' h)), rfl⟩
  rcases ite_or hr with ⟨c, hr⟩ | ⟨c, hr⟩
  · obtain rfl := is_no hr
    have := (fb (by omega)).1
    rw [this]
    exact ⟨mk_c (on_word (okT_w' h)), rfl⟩
  rcases ite_or hr with ⟨c, hr⟩ | ⟨c, hr⟩
  · exact yes_no hr
  rcases ite_or hr with ⟨c, hr⟩ | ⟨c, hr⟩
  · obtain rfl := is_no hr; exact ⟨a0, (fb (by omega)).1⟩
  rcases ite_or hr with ⟨c, hr⟩ | ⟨c, hr⟩
  · obtain rfl := is_no hr; exact ⟨mk_c (zero_word rfl), (fr (by omega)).2.symm⟩
  rcases ite_or hr with ⟨c, hr⟩ | ⟨c, hr⟩
  · obtain rfl := is_no hr; exact ⟨a0, (fb (by omega)).1⟩
  rcases ite_or hr with ⟨c, hr⟩ | ⟨c, hr⟩
  · obtain rfl := is_no hr; exact ⟨mk_c (zero_word (okT_w' h)), rfl⟩
  rcases ite_or hr with ⟨c, hr⟩ | ⟨c, hr⟩
  · obtain rfl := is_no hr; exact ⟨mk_c one_word, (fr (by omega)).2.symm⟩
  rcases ite_or hr with ⟨c, hr⟩ | ⟨c, hr⟩
  · exact yes_no hr
  · obtain rfl := is_no hr; exact ⟨h, rfl⟩
theorem red_w {t x : V.Term} (hr : redS t = (x, true)) : x.w = t.w := by
  unfold redS at hr
  by_cases c1 : t.op = 1 ∨ t.op = 2
  · rw [if_pos c1] at hr
    unfold redU at hr
    rcases ite_or hr with ⟨_, hr⟩ | ⟨_, hr⟩ <;> exact no_again hr
  rw [if_neg c1] at hr
  by_cases c2 : t.op = 17
  · rw [if_pos c2] at hr
    unfold redI at hr
    rcases ite_or hr with ⟨c, hr⟩ | ⟨c, hr⟩
    · exact no_again hr
    rcases ite_or hr with ⟨c, hr⟩ | ⟨c, hr⟩
    · exact no_again hr
    rcases ite_or hr with ⟨c, hr⟩ | ⟨c, hr⟩
    · exact no_again hr
    rcases ite_or hr with ⟨c, hr⟩ | ⟨c, hr⟩
    · obtain rfl := is_again hr; rfl
    rcases ite_or hr with ⟨c, hr⟩ | ⟨c, hr⟩
    · exact no_again hr
    rcases ite_or hr with ⟨c, hr⟩ | ⟨c, hr⟩
    · obtain rfl := is_again hr; exact c.1.symm
    · exact no_again hr
  rw [if_neg c2] at hr
  by_cases c3 : t.op = 19
  · rw [if_pos c3] at hr
    unfold redC at hr
    rcases ite_or hr with ⟨c, hr⟩ | ⟨c, hr⟩
    · exact no_again hr
    rcases ite_or hr with ⟨c, hr⟩ | ⟨c, hr⟩
    · obtain rfl := is_again hr; rfl
    rcases ite_or hr with ⟨c, hr⟩ | ⟨c, hr⟩
    · obtain rfl := is_again hr; rfl
    rcases ite_or hr with ⟨c, hr⟩ | ⟨c, hr⟩
    · obtain rfl := is_again hr; rfl
    rcases ite_or hr with ⟨c, hr⟩ | ⟨c, hr⟩
    · obtain rfl := is_again hr; rfl
    · exact no_again hr
  rw [if_neg c3] at hr
  by_cases c4 : t.op = 20 ∨ t.op = 21
  · rw [if_pos c4] at hr
    unfold redW at hr
    rcases ite_or hr with ⟨c, hr⟩ | ⟨c, hr⟩
    · exact no_again hr
    rcases ite_or hr with ⟨c, hr⟩ | ⟨c, hr⟩
    · obtain rfl := is_again hr; rfl
    · exact no_again hr
  rw [if_neg c4] at hr
  by_cases c5 : t.op = 18
  · rw [if_pos c5] at hr
    unfold redJ at hr
    rcases ite_or hr with ⟨c, hr⟩ | ⟨c, hr⟩
    · obtain rfl := is_again hr; rfl
    · exact no_again hr
  rw [if_neg c5] at hr
  unfold redB at hr
  rcases ite_or hr with ⟨c, hr⟩ | ⟨c, hr⟩
  · obtain rfl := is_again hr; rfl
  rcases ite_or hr with ⟨c, hr⟩ | ⟨c, hr⟩
  · exact no_again hr
  rcases ite_or hr with ⟨c, hr⟩ | ⟨c, hr⟩
  · exact no_again hr
  rcases ite_or hr with ⟨c, hr⟩ | ⟨c, hr⟩
  · exact no_again hr
  rcases ite_or hr with ⟨c, hr⟩ | ⟨c, hr⟩
  · obtain rfl := is_again hr; rfl
  rcases ite_or hr with ⟨c, hr⟩ | ⟨c, hr⟩
  · exact no_again hr
  rcases ite_or hr with ⟨c, hr⟩ | ⟨c, hr⟩
  · exact no_again hr
  rcases ite_or hr with ⟨c, hr⟩ | ⟨c, hr⟩
  · exact no_again hr
  rcases ite_or hr with ⟨c, hr⟩ | ⟨c, hr⟩
  · exact no_again hr
  rcases ite_or hr with ⟨c, hr⟩ | ⟨c, hr⟩
  · exact no_again hr
  rcases ite_or hr with ⟨c, hr⟩ | ⟨c, hr⟩
  · obtain rfl := is_again hr; rfl
  · exact no_again hr
theorem mkF_ok : ∀ (f : Nat) (t : V.Term), okT t = true → okT (mkF f t) = true ∧ (mkF f t).w = t.w
  | 0, t, h => ⟨h, rfl⟩
  | f + 1, t, h => by
    rw [mkF]
    by_cases c1 : t.kids.length = 0
    · rw [if_pos c1]; exact ⟨h, rfl⟩
    rw [if_neg c1]
    have ho : 1 ≤ t.op ∧ t.op ≤ 21 := okT_op' h (fun e => c1 (by rw [e]; rfl))
    by_cases c2 : allC t.kids = true
    · rw [if_pos c2]; exact ⟨mk_c (ap_w h ho c2), rfl⟩
    rw [if_neg c2]
    by_cases c3 : (redS t).2 = true
    · rw [if_pos c3]
      have h1 := red_ok (x := (redS t).1) h ho (Prod.ext rfl c3)
      have h2 := red_w (x := (redS t).1) (Prod.ext rfl c3)
      have h3 := mkF_ok f _ h1.1
      exact ⟨h3.1, h3.2.trans h2⟩
    · rw [if_neg c3]
      exact red_no (x := (redS t).1) h ho (Prod.ext rfl (by simpa using c3))
theorem mkT_ok {t : V.Term} (h : okT t = true) : okT (mkT t) = true := (mkF_ok _ t h).1
theorem isName_sz {s : ByteArray} (h : isNameP s = true) : s.size ≤ 8 := by
  rw [isNameP, Bool.and_eq_true, inP_iff] at h
  omega
mutual
theorem okT_nmT : ∀ {t : V.Term}, okT t = true → nmT t = true
  | ⟨op, w, n, nm, ks⟩, h => by
    have h1 := okT_ks h
    have h2 : nm.size ≤ 1048576 := by
      by_cases e : op = 22
      · rw [okT_eq, Bool.and_eq_true, Bool.and_eq_true] at h
        have := h.1.2
        simp only [e, decide_true, Bool.not_true, Bool.false_or] at this
        have := isName_sz this
        omega
      · rw [show nm = ByteArray.empty from okT_nm h e]; decide
    rw [nmT_eq, Bool.and_eq_true]
    exact ⟨decide_eq_true h2, okTs_nm h1⟩
theorem okTs_nm : ∀ {ks : List V.Term}, okTs ks = true → nmTs ks = true
  | [], _ => by rw [nmTs]
  | t :: ts, h => by
    rw [okTs, Bool.and_eq_true] at h
    rw [nmTs, okT_nmT h.1, okTs_nm h.2]; rfl
end
theorem nmT_o {op w n : Int} {ks : List V.Term} (h : nmTs ks = true) : nmT (oT op w n ks) = true := by
  rw [nmT_eq, Bool.and_eq_true]
  exact ⟨decide_eq_true (by show ByteArray.empty.size ≤ 1048576; decide), h⟩
theorem termP_ok {t : V.Term} (h : termP t = true) : okT t = true := by
  unfold termP at h
  simp only [Bool.and_eq_true] at h
  exact h.1.2
/-! ### making a term -/
noncomputable def mkP (op w n : Int) (ks : List V.Term) : V.Term × Bool := if termP (oT op w n ks) = true then (mkT (oT op w n ks), true) else (zT, false)
theorem mkP_n {op w n : Int} {ks : List V.Term} (h : termP (oT op w n ks) = false) : mkP op w n ks = (zT, false) := by unfold mkP; rw [if_neg (by rw [h]; decide)]
theorem mkP_y {op w n : Int} {ks : List V.Term} (h : termP (oT op w n ks) = true) : mkP op w n ks = (mkT (oT op w n ks), true) := by unfold mkP; rw [if_pos h]
theorem mp_y {B : List Blk} {X : AV} {op w n : Int} {ks : List V.Term} (h : ∀ y, mkP op w n ks = y → frzM B (datT y.1) X) : frzM B (datT (mkP op w n ks).1) X := h _ rfl
theorem mp_b {B : List Blk} {X : AV} {op w n : Int} {ks : List V.Term} (h : ∀ y, mkP op w n ks = y → frzM B (.dat (.bool y.2)) X) : frzM B (.dat (.bool (mkP op w n ks).2)) X := h _ rfl
set_option maxRecDepth 100000 in
theorem i_makeTerm (op w n : Int) (ks : List V.Term) : CallsV Tryz.prog 46 [.dat (.i op), .dat (.i w), .dat (.i n), .dat (.seq .terms ks)] (.tup [datT (mkP op w n ks).1, .dat (.bool (mkP op w n ks).2)]) := by
  refine CallsV.of_awp tauOk mixOk Tryz.func46 rfl rfl rfl ?_
  conv => whnf
  repeat' (first | ((with_reducible refine fun (K1 : AX → AState → Prop) hK => ?_); refine stR ⟨?_⟩) | ((with_reducible show K1 _ _); subst hK; conv => whnf) | (with_reducible exact rfl) | refine st0 ⟨?_⟩ | ((with_reducible refine SplS.mk (fun h => ?_) (fun h => ?_)) <;> first | exact ctA | (subst h; conv => whnf) | (conv => whnf)) | ((with_reducible refine SplB.mk (fun h => ?_) (fun h => ?_)) <;> first | exact ctR | (conv => whnf)) | ((with_reducible refine and_of ?_ ?_); conv => whnf) | ((with_reducible refine pcI (g := 45) ?_); refine ⟨_, i_TermOk .., rfl, ?_⟩; rotate_right; conv => whnf) | ((with_reducible show Exists _); refine Exists.intro _ (And.intro (i_TermOk ..) (And.intro rfl ?_)); rotate_right; conv => whnf) | ((with_reducible refine pcI (g := 66) ?_); refine ⟨_, i_reduce (hk := ?_) .., rfl, ?_⟩; rotate_right; conv => whnf) | ((with_reducible show Exists _); refine Exists.intro _ (And.intro (i_reduce (hk := ?_) ..) (And.intro rfl ?_)); rotate_right; conv => whnf) | (intro h; conv => whnf))
  all_goals (repeat (clear hK; clear K1))
  all_goals first | exact True.intro | exact termP_ok (by with_reducible assumption) | ((first | refine mp_y fun y hz => ?_ | refine mp_b fun y hz => ?_); (first | rw [mkP_n (by with_reducible assumption)] at hz | rw [mkP_y (by with_reducible assumption)] at hz); subst hz; first | exact rfl | exact fr5M (V.Term.eta _).symm | exact fr5M rfl | exact fr5Mn rfl) | skip
theorem okTs_take {ks : List V.Term} {k : Nat} (h : (k : Int) < ks.length) (hk : okTs ks = true) : okT ⟨(ks.getD (k : Int).toNat K.terms.dflt).op, (ks.getD (k : Int).toNat K.terms.dflt).w, (ks.getD (k : Int).toNat K.terms.dflt).n, (ks.getD (k : Int).toNat K.terms.dflt).name, (ks.getD (k : Int).toNat K.terms.dflt).kids⟩ = true := by
  rw [V.Term.eta]
  exact okTs_at (i := k) hk (by omega)
theorem sz_at : ∀ {ks : List V.Term} {i : Nat}, i < ks.length → sizeT (kAt ks i) ≤ sizeTs ks
  | t :: ts, 0, _ => by rw [sizeTs]; show sizeT t ≤ _; omega
  | t :: ts, i + 1, h => by
    have := sz_at (ks := ts) (i := i) (by simpa using h)
    rw [sizeTs]
    show sizeT (kAt ts i) ≤ _
    omega
theorem sz_kid {t : V.Term} {k : Nat} (h : (k : Int) < t.kids.length) : sizeT ⟨(t.kids.getD (k : Int).toNat K.terms.dflt).op, (t.kids.getD (k : Int).toNat K.terms.dflt).w, (t.kids.getD (k : Int).toNat K.terms.dflt).n, (t.kids.getD (k : Int).toNat K.terms.dflt).name, (t.kids.getD (k : Int).toNat K.terms.dflt).kids⟩ < sizeT t := by
  rw [V.Term.eta, sz_kids t]
  have := sz_at (ks := t.kids) (i := k) (by omega)
  show sizeT (kAt t.kids k) < _
  omega
theorem take_s {ks : List V.Term} {k : Nat} (h : (k : Int) < ks.length) : ks.take (k + 1) = ks.take k ++ [⟨(ks.getD (k : Int).toNat K.terms.dflt).op, (ks.getD (k : Int).toNat K.terms.dflt).w, (ks.getD (k : Int).toNat K.terms.dflt).n, (ks.getD (k : Int).toNat K.terms.dflt).name, (ks.getD (k : Int).toNat K.terms.dflt).kids⟩] := by
  have hk : k < ks.length := by omega
  have e : ks.getD (k : Int).toNat K.terms.dflt = ks[k] := by
    rw [Int.toNat_natCast, List.getD_eq_getElem?_getD, List.getElem?_eq_getElem hk]; rfl
  rw [V.Term.eta, e, List.take_add_one, List.getElem?_eq_getElem hk]
  rfl
theorem take_l {ks : List V.Term} {k : Nat} (hk : k ≤ ks.length) : (ks.take k).length = k := by simp; omega
structure IHCp (t : V.Term) : Prop where
  call : ∀ (op w n : Int) (nm : ByteArray) (ks : List V.Term), okT ⟨op, w, n, nm, ks⟩ = true → sizeT ⟨op, w, n, nm, ks⟩ < sizeT t →
    CallsV Tryz.prog 40 [.agg [.dat (.i op), .dat (.i w), .dat (.i n), .dat (.str nm), .dat (.seq .terms ks)]] (datT ⟨op, w, n, nm, ks⟩)
theorem ih_cp {t : V.Term} (ih : IHCp t) {op w n : Int} {nm : ByteArray} {ks : List V.Term} (hk : okT ⟨op, w, n, nm, ks⟩ = true) (hm : sizeT ⟨op, w, n, nm, ks⟩ < sizeT t) :
    CallsV Tryz.prog 40 [.agg [.dat (.i op), .dat (.i w), .dat (.i n), .dat (.str nm), .dat (.seq .terms ks)]] (datT ⟨op, w, n, nm, ks⟩) := ih.call op w n nm ks hk hm
set_option maxRecDepth 100000 in
theorem s_Copy0 (t : V.Term) (ih : IHCp t) (ht : okT t = true) : CallsV Tryz.prog 40 [.agg [.dat (.i t.op), .dat (.i t.w), .dat (.i t.n), .dat (.str t.name), .dat (.seq .terms t.kids)]] (datT t) := by
  refine CallsV.of_awp tauOk mixOk Tryz.func40 rfl rfl rfl ?_
  conv => whnf
  repeat' (first | ((with_reducible refine fun (K1 : AX → AState → Prop) hK => ?_); refine stR ⟨?_⟩) | ((with_reducible show K1 _ _); subst hK; conv => whnf) | (with_reducible refine frG ?_) | (with_reducible exact rfl) | refine st0 ⟨?_⟩ | ((with_reducible refine SplS.mk (fun h => ?_) (fun h => ?_)) <;> first | exact ctA | (subst h; conv => whnf) | (conv => whnf)) | ((with_reducible refine SplB.mk (fun h => ?_) (fun h => ?_)) <;> first | exact ctR | (conv => whnf)) | (with_reducible first | refine bnd2 ?_ ?_ | refine bnd2' ?_ ?_ | refine bndN ?_ ?_) | ((with_reducible refine and_of ?_ ?_); conv => whnf) | (refine Exists.intro ({k : Nat // k ≤ t.kids.length}) (Exists.intro (fun ⟨k, hk⟩ => mkS Tryz.f40.ntmps [(1, .ptr 1 0), (2, .ptr 2 0), (3, .row 3), (8, .dat (.seq .terms t.kids)), (9, .dat (.i t.kids.length)), (10, .dat (.i k))] [(1, .box [.dat (.i t.op), .dat (.i t.w), .dat (.i t.n), .dat (.str t.name), .dat (.seq .terms t.kids)]), (2, .box [.dat (.i 0), .dat (.i 0), .dat (.i 0), .dat (.str ByteArray.empty), .nils]), (3, .row 32 .terms (t.kids.take k) false)]) (Exists.intro (fun ⟨k, hk⟩ => t.kids.length - k) (Exists.intro ⟨0, Nat.zero_le _⟩ (And.intro (SubP.sub (σ := [(1, some 1), (2, some 2), (3, some 6)]) ⟨⟨rfl, rfl, rfl⟩, ⟨⟨rfl, rfl⟩, ⟨rfl, rfl⟩, rfl, (wk_dat ?_), (wk_dat ?_), (wk_dat ?_), trivial⟩, ⟨⟨(wkC_dat ?_), (wkC_dat ?_), (wkC_dat ?_), (wkC_dat ?_), (wkC_dat ?_), trivial⟩, ⟨(wkC_dat ?_), (wkC_dat ?_), (wkC_dat ?_), (wkC_dat ?_), trivial, trivial⟩, ⟨⟨rfl, rfl⟩, ?_⟩, trivial⟩⟩) (fun ⟨k, hk⟩ => ?_))))); rotate_right; conv => whnf) | (refine Exists.intro (⟨k + 1, ?_⟩ : {k : Nat // k ≤ t.kids.length}) (And.intro ?_ (SubP.sub (σ := [(1, some 1), (2, some 2), (3, some 18)]) ⟨⟨rfl, rfl, rfl⟩, ⟨⟨rfl, rfl⟩, ⟨rfl, rfl⟩, rfl, (wk_dat ?_), (wk_dat ?_), (wk_dat ?_), trivial⟩, ⟨⟨(wkC_dat ?_), (wkC_dat ?_), (wkC_dat ?_), (wkC_dat ?_), (wkC_dat ?_), trivial⟩, ⟨(wkC_dat ?_), (wkC_dat ?_), (wkC_dat ?_), (wkC_dat ?_), trivial, trivial⟩, ⟨⟨rfl, rfl⟩, ?_⟩, trivial⟩⟩))) | ((with_reducible refine pcI (g := 40) ?_); refine ⟨_, ih_cp (ih := by assumption) (hk := ?_) (hm := ?_) .., rfl, ?_⟩; rotate_right; conv => whnf) | ((with_reducible show Exists _); refine Exists.intro _ (And.intro (ih_cp (ih := by assumption) (hk := ?_) (hm := ?_) ..) (And.intro rfl ?_)); rotate_right; conv => whnf) | (intro h; conv => whnf))
  all_goals (repeat (clear hK; clear K1))
  all_goals first | exact True.intro | ((with_reducible show (_ : Int) ≤ _); omega) | ((with_reducible show (_ : Int) < _); with_reducible assumption) | ((with_reducible show okT _ = true); exact okTs_take (by with_reducible assumption) (okT_ks ht)) | ((with_reducible show sizeT _ < _); exact sz_kid (by with_reducible assumption)) | ((with_reducible show (_ : Nat) < _); (dsimp only; omega)) | (have l3 := len3 ht; exact wr_s (by omega)) | exact congrArg (Sigma.mk K.terms) ((take_s (by with_reducible assumption)).trans rfl) | ((with_reducible show _ * _ ≤ _); have l3 := len3 ht; have l4 := take_l (ks := t.kids) hk; rw [l4]; exact Nat.le_trans (Nat.mul_le_mul_right _ (show k + 1 ≤ 4 by omega)) (by decide)) | ((with_reducible show _ + _ ≤ _); have l3 := len3 ht; have l4 := take_l (ks := t.kids) hk; rw [l4]; show k + 1 ≤ 2 ^ 63 - 1; omega) | ((with_reducible show _ ≤ _); omega) | (with_reducible assumption) | exact rfl | exact ⟨rfl, rfl, rfl, rfl, congrArg (Dat.seq K.terms) (take_all (ks := t.kids) (k := k) (by omega)).symm, True.intro⟩ | exact ⟨rfl, rfl, rfl, rfl, rfl, True.intro⟩ | exact ⟨⟨rfl, rfl, rfl, rfl, congrArg (Dat.seq K.terms) (take_all (ks := t.kids) (k := k) (by omega)).symm, True.intro⟩⟩ | skip
theorem s_l02Copy (op w n : Int) (nm : ByteArray) (ks : List V.Term) (hk : okT ⟨op, w, n, nm, ks⟩ = true) :
    CallsV Tryz.prog 40 [.agg [.dat (.i op), .dat (.i w), .dat (.i n), .dat (.str nm), .dat (.seq .terms ks)]] (datT ⟨op, w, n, nm, ks⟩) := by
  have key : ∀ (k : Nat) (t : V.Term), sizeT t < k → okT t = true →
      CallsV Tryz.prog 40 [.agg [.dat (.i t.op), .dat (.i t.w), .dat (.i t.n), .dat (.str t.name), .dat (.seq .terms t.kids)]] (datT t) := by
    intro k
    induction k with
    | zero => intro t h; exact absurd h (Nat.not_lt_zero _)
    | succ k ih =>
      intro t h ht
      exact s_Copy0 t ⟨fun op w n nm ks hk hs => ih ⟨op, w, n, nm, ks⟩ (by omega) hk⟩ ht
  exact key _ ⟨op, w, n, nm, ks⟩ (Nat.lt_succ_self _) hk
theorem okT_mk (t : V.Term) (h : okT t = true) : okT ⟨(mkT t).op, (mkT t).w, (mkT t).n, (mkT t).name, (mkT t).kids⟩ = true := by
  rw [V.Term.eta]; exact mkT_ok h
set_option maxRecDepth 100000 in
theorem s_MakeTerm (op w n : Int) (ks : List V.Term) (hn : nmTs ks = true) : CallsV Tryz.prog 24 [.dat (.i op), .dat (.i w), .dat (.i n), .dat (.seq .terms ks)] (.tup [datT (mkP op w n ks).1, .dat (.bool (mkP op w n ks).2)]) := by
  refine CallsV.of_awp tauOk mixOk Tryz.func24 rfl rfl rfl ?_
  conv => whnf
  repeat' (first | ((with_reducible refine fun (K1 : AX → AState → Prop) hK => ?_); refine stR ⟨?_⟩) | ((with_reducible show K1 _ _); subst hK; conv => whnf) | (with_reducible exact rfl) | refine st0 ⟨?_⟩ | ((with_reducible refine SplS.mk (fun h => ?_) (fun h => ?_)) <;> first | exact ctA | (subst h; conv => whnf) | (conv => whnf)) | ((with_reducible refine SplB.mk (fun h => ?_) (fun h => ?_)) <;> first | exact ctR | (conv => whnf)) | ((with_reducible refine and_of ?_ ?_); conv => whnf) | ((with_reducible refine pcI (g := 39) ?_); refine ⟨_, s_TermOk (hn := ?_) .., rfl, ?_⟩; rotate_right; conv => whnf) | ((with_reducible show Exists _); refine Exists.intro _ (And.intro (s_TermOk (hn := ?_) ..) (And.intro rfl ?_)); rotate_right; conv => whnf) | ((with_reducible refine pcI (g := 40) ?_); refine ⟨_, s_l02Copy (hk := ?_) .., rfl, ?_⟩; rotate_right; conv => whnf) | ((with_reducible show Exists _); refine Exists.intro _ (And.intro (s_l02Copy (hk := ?_) ..) (And.intro rfl ?_)); rotate_right; conv => whnf) | ((with_reducible refine pcI (g := 41) ?_); refine ⟨_, s_l02Make (hk := ?_) .., rfl, ?_⟩; rotate_right; conv => whnf) | ((with_reducible show Exists _); refine Exists.intro _ (And.intro (s_l02Make (hk := ?_) ..) (And.intro rfl ?_)); rotate_right; conv => whnf) | (intro h; conv => whnf))
  all_goals (repeat (clear hK; clear K1))
  all_goals first | exact True.intro | exact nmT_o hn | exact termP_ok (by with_reducible assumption) | exact okT_mk _ (termP_ok (by with_reducible assumption)) | ((first | refine mp_y fun y hz => ?_ | refine mp_b fun y hz => ?_); (first | rw [mkP_n (by with_reducible assumption)] at hz | rw [mkP_y (by with_reducible assumption)] at hz); subst hz; first | exact rfl | exact fr5M (V.Term.eta _).symm | exact fr5M rfl | exact fr5Mn rfl) | skip
end Vg
