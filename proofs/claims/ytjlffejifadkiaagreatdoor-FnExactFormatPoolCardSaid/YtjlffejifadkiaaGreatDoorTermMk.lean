/- Terms are made: what is made of a good term is good; MakeTerm of the program and of the reference, copies. Conditions: short names, good terms. -/
import Derived.Test.YtjlffejifadkiaaGreatDoorTermRd
import Derived.Test.YtjlffejifadkiaaGreatDoorTermMS
namespace Vg
open Go Go.Proofs
set_option maxRecDepth 100000
set_option maxHeartbeats 40000000
theorem qeq {α : Type} {a x : α} {P : Prop} (h : (a, true) = (x, false)) : P := by simp at h
theorem qdy {α : Type} {a x : α} (h : (a, false) = (x, false)) : x = a := by simp at h; exact h.symm
theorem one_word : wordP 1 1 = true := by decide
theorem red_no {t x : V.Term} (h : okT t = true) (ho : 1 ≤ t.op ∧ t.op ≤ 21) (hr : qdk t = (x, false)) : okT x = true ∧ x.w = t.w := by
  have a0 := ok0 h ho
  unfold qdk at hr
  by_cases c1 : t.op = 1 ∨ t.op = 2
  · rw [if_pos c1] at hr
    unfold redU at hr
    have e := fit_u h c1
    rcases qah hr with ⟨c, hr⟩ | ⟨_, hr⟩
    · obtain rfl := qdy hr
      have f := fit_u a0 omG
      exact ⟨ok0 a0 omG, by omega⟩
    · obtain rfl := qdy hr; exact ⟨h, rfl⟩
  rw [if_neg c1] at hr
  by_cases c2 : t.op = 17
  · rw [if_pos c2] at hr
    have e := fit_i h c2
    unfold redI at hr
    rcases qah hr with ⟨c, hr⟩ | ⟨c, hr⟩
    · obtain rfl := qdy hr; exact ⟨ok1 h omG, e.2.1⟩
    rcases qah hr with ⟨c, hr⟩ | ⟨c, hr⟩
    · obtain rfl := qdy hr; exact ⟨ok2 h omG, e.2.2⟩
    rcases qah hr with ⟨c, hr⟩ | ⟨c, hr⟩
    · obtain rfl := qdy hr; exact ⟨ok1 h omG, e.2.1⟩
    rcases qah hr with ⟨c, hr⟩ | ⟨c, hr⟩
    · exact qeq hr
    rcases qah hr with ⟨c, hr⟩ | ⟨c, hr⟩
    · obtain rfl := qdy hr; exact ⟨a0, by omega⟩
    rcases qah hr with ⟨c, hr⟩ | ⟨c, hr⟩
    · exact qeq hr
    · obtain rfl := qdy hr; exact ⟨h, rfl⟩
  rw [if_neg c2] at hr
  by_cases c3 : t.op = 19
  · rw [if_pos c3] at hr
    unfold redC at hr
    rcases qah hr with ⟨c, hr⟩ | ⟨c, hr⟩
    · obtain rfl := qdy hr; exact ⟨a0, c.2.symm⟩
    rcases qah hr with ⟨c, hr⟩ | ⟨c, hr⟩
    · exact qeq hr
    rcases qah hr with ⟨c, hr⟩ | ⟨c, hr⟩
    · exact qeq hr
    rcases qah hr with ⟨c, hr⟩ | ⟨c, hr⟩
    · exact qeq hr
    rcases qah hr with ⟨c, hr⟩ | ⟨c, hr⟩
    · exact qeq hr
    · obtain rfl := qdy hr; exact ⟨h, rfl⟩
  rw [if_neg c3] at hr
  by_cases c4 : t.op = 20 ∨ t.op = 21
  · rw [if_pos c4] at hr
    unfold redW at hr
    rcases qah hr with ⟨c, hr⟩ | ⟨c, hr⟩
    · obtain rfl := qdy hr; exact ⟨a0, c.symm⟩
    rcases qah hr with ⟨c, hr⟩ | ⟨c, hr⟩
    · exact qeq hr
    · obtain rfl := qdy hr; exact ⟨h, rfl⟩
  rw [if_neg c4] at hr
  by_cases c5 : t.op = 18
  · rw [if_pos c5] at hr
    unfold redJ at hr
    rcases qah hr with ⟨c, hr⟩ | ⟨c, hr⟩
    · exact qeq hr
    · obtain rfl := qdy hr; exact ⟨h, rfl⟩
  rw [if_neg c5] at hr
  have a1 := ok1 h omG
  have fb := fun q => fit_b h q
  have fr := fun q => qpc h q
  unfold qca at hr
  rcases qah hr with ⟨c, hr⟩ | ⟨c, hr⟩
  · exact qeq hr
  rcases qah hr with ⟨c, hr⟩ | ⟨c, hr⟩
  · obtain rfl := qdy hr
    refine ⟨a1, ?_⟩
    by_cases q : t.op = 14
    · have := fr omG; omega
    · exact (fb omG).2
  rcases qah hr with ⟨c, hr⟩ | ⟨c, hr⟩
  · obtain rfl := qdy hr; exact ⟨qot (zero_word (qad h)), rfl⟩
  rcases qah hr with ⟨c, hr⟩ | ⟨c, hr⟩
  · obtain rfl := qdy hr
    have := (fb omG).1
    rw [this]
    exact ⟨qot (on_word (qad h)), rfl⟩
  rcases qah hr with ⟨c, hr⟩ | ⟨c, hr⟩
  · exact qeq hr
  rcases qah hr with ⟨c, hr⟩ | ⟨c, hr⟩
  · obtain rfl := qdy hr; exact ⟨a0, (fb omG).1⟩
  rcases qah hr with ⟨c, hr⟩ | ⟨c, hr⟩
  · obtain rfl := qdy hr; exact ⟨qot (zero_word rfl), (fr omG).2.symm⟩
  rcases qah hr with ⟨c, hr⟩ | ⟨c, hr⟩
  · obtain rfl := qdy hr; exact ⟨a0, (fb omG).1⟩
  rcases qah hr with ⟨c, hr⟩ | ⟨c, hr⟩
  · obtain rfl := qdy hr; exact ⟨qot (zero_word (qad h)), rfl⟩
  rcases qah hr with ⟨c, hr⟩ | ⟨c, hr⟩
  · obtain rfl := qdy hr; exact ⟨qot one_word, (fr omG).2.symm⟩
  rcases qah hr with ⟨c, hr⟩ | ⟨c, hr⟩
  · exact qeq hr
  · obtain rfl := qdy hr; exact ⟨h, rfl⟩
theorem red_w {t x : V.Term} (hr : qdk t = (x, true)) : x.w = t.w := by
  unfold qdk at hr
  by_cases c1 : t.op = 1 ∨ t.op = 2
  · rw [if_pos c1] at hr
    unfold redU at hr
    rcases qah hr with ⟨_, hr⟩ | ⟨_, hr⟩ <;> exact qai hr
  rw [if_neg c1] at hr
  by_cases c2 : t.op = 17
  · rw [if_pos c2] at hr
    unfold redI at hr
    rcases qah hr with ⟨c, hr⟩ | ⟨c, hr⟩
    · exact qai hr
    rcases qah hr with ⟨c, hr⟩ | ⟨c, hr⟩
    · exact qai hr
    rcases qah hr with ⟨c, hr⟩ | ⟨c, hr⟩
    · exact qai hr
    rcases qah hr with ⟨c, hr⟩ | ⟨c, hr⟩
    · obtain rfl := qa3 hr; rfl
    rcases qah hr with ⟨c, hr⟩ | ⟨c, hr⟩
    · exact qai hr
    rcases qah hr with ⟨c, hr⟩ | ⟨c, hr⟩
    · obtain rfl := qa3 hr; exact c.1.symm
    · exact qai hr
  rw [if_neg c2] at hr
  by_cases c3 : t.op = 19
  · rw [if_pos c3] at hr
    unfold redC at hr
    rcases qah hr with ⟨c, hr⟩ | ⟨c, hr⟩
    · exact qai hr
    rcases qah hr with ⟨c, hr⟩ | ⟨c, hr⟩
    · obtain rfl := qa3 hr; rfl
    rcases qah hr with ⟨c, hr⟩ | ⟨c, hr⟩
    · obtain rfl := qa3 hr; rfl
    rcases qah hr with ⟨c, hr⟩ | ⟨c, hr⟩
    · obtain rfl := qa3 hr; rfl
    rcases qah hr with ⟨c, hr⟩ | ⟨c, hr⟩
    · obtain rfl := qa3 hr; rfl
    · exact qai hr
  rw [if_neg c3] at hr
  by_cases c4 : t.op = 20 ∨ t.op = 21
  · rw [if_pos c4] at hr
    unfold redW at hr
    rcases qah hr with ⟨c, hr⟩ | ⟨c, hr⟩
    · exact qai hr
    rcases qah hr with ⟨c, hr⟩ | ⟨c, hr⟩
    · obtain rfl := qa3 hr; rfl
    · exact qai hr
  rw [if_neg c4] at hr
  by_cases c5 : t.op = 18
  · rw [if_pos c5] at hr
    unfold redJ at hr
    rcases qah hr with ⟨c, hr⟩ | ⟨c, hr⟩
    · obtain rfl := qa3 hr; rfl
    · exact qai hr
  rw [if_neg c5] at hr
  unfold qca at hr
  rcases qah hr with ⟨c, hr⟩ | ⟨c, hr⟩
  · obtain rfl := qa3 hr; rfl
  rcases qah hr with ⟨c, hr⟩ | ⟨c, hr⟩
  · exact qai hr
  rcases qah hr with ⟨c, hr⟩ | ⟨c, hr⟩
  · exact qai hr
  rcases qah hr with ⟨c, hr⟩ | ⟨c, hr⟩
  · exact qai hr
  rcases qah hr with ⟨c, hr⟩ | ⟨c, hr⟩
  · obtain rfl := qa3 hr; rfl
  rcases qah hr with ⟨c, hr⟩ | ⟨c, hr⟩
  · exact qai hr
  rcases qah hr with ⟨c, hr⟩ | ⟨c, hr⟩
  · exact qai hr
  rcases qah hr with ⟨c, hr⟩ | ⟨c, hr⟩
  · exact qai hr
  rcases qah hr with ⟨c, hr⟩ | ⟨c, hr⟩
  · exact qai hr
  rcases qah hr with ⟨c, hr⟩ | ⟨c, hr⟩
  · exact qai hr
  rcases qah hr with ⟨c, hr⟩ | ⟨c, hr⟩
  · obtain rfl := qa3 hr; rfl
  · exact qai hr
theorem mkF_ok : ∀ (f : Nat) (t : V.Term), okT t = true → okT (mkF f t) = true ∧ (mkF f t).w = t.w
  | 0, t, h => ⟨h, rfl⟩
  | f + 1, t, h => by
    rw [mkF]
    by_cases c1 : t.kids.length = 0
    · rw [if_pos c1]; exact ⟨h, rfl⟩
    rw [if_neg c1]
    have ho : 1 ≤ t.op ∧ t.op ≤ 21 := qi0 h (fun e => c1 (by rw [e]; rfl))
    by_cases c2 : qb2 t.kids = true
    · rw [if_pos c2]; exact ⟨qot (ap_w h ho c2), rfl⟩
    rw [if_neg c2]
    by_cases c3 : (qdk t).2 = true
    · rw [if_pos c3]
      have h1 := qcc (x := (qdk t).1) h ho (Prod.ext rfl c3)
      have h2 := red_w (x := (qdk t).1) (Prod.ext rfl c3)
      have h3 := mkF_ok f _ h1.1
      exact ⟨h3.1, h3.2.trans h2⟩
    · rw [if_neg c3]
      exact red_no (x := (qdk t).1) h ho (Prod.ext rfl (by simpa using c3))
theorem mkT_ok {t : V.Term} (h : okT t = true) : okT (mkT t) = true := (mkF_ok _ t h).1
theorem mkT_w {t : V.Term} (h : okT t = true) : (mkT t).w = t.w := (mkF_ok _ t h).2
theorem isName_sz {s : ByteArray} (h : isNameP s = true) : s.size ≤ 8 := by
  rw [isNameP, Bool.and_eq_true, inP_iff] at h
  omega
mutual
theorem okT_nmT : ∀ {t : V.Term}, okT t = true → nmT t = true
  | ⟨op, w, n, nm, ks⟩, h => by
    have h1 := okT_ks h
    have h2 : nm.size ≤ 1048576 := by
      by_cases e : op = 22
      · rw [qhs, Bool.and_eq_true, Bool.and_eq_true] at h
        have := h.1.2
        simp only [e, decide_true, Bool.not_true, Bool.false_or] at this
        have := isName_sz this
        omega
      · rw [show nm = ByteArray.empty from qm4 h e]; decide
    rw [nmT_eq, Bool.and_eq_true]
    exact ⟨decide_eq_true h2, qoq h1⟩
theorem qoq : ∀ {ks : List V.Term}, okTs ks = true → nmTs ks = true
  | [], _ => by rw [nmTs]
  | t :: ts, h => by
    rw [okTs, Bool.and_eq_true] at h
    rw [nmTs, okT_nmT h.1, qoq h.2]; rfl
end
theorem nmT_o {op w n : Int} {ks : List V.Term} (h : nmTs ks = true) : nmT (oT op w n ks) = true := by
  rw [nmT_eq, Bool.and_eq_true]
  exact ⟨decide_eq_true (by show ByteArray.empty.size ≤ 1048576; decide), h⟩
theorem termP_ok {t : V.Term} (h : qd2 t = true) : okT t = true := by
  unfold qd2 at h
  simp only [Bool.and_eq_true] at h
  exact h.1.2
/-! ### making a term -/
noncomputable def mkP (op w n : Int) (ks : List V.Term) : V.Term × Bool := if qd2 (oT op w n ks) = true then (mkT (oT op w n ks), true) else (zT, false)
theorem mkP_n {op w n : Int} {ks : List V.Term} (h : qd2 (oT op w n ks) = false) : mkP op w n ks = (zT, false) := by unfold mkP; rw [if_neg (by rw [h]; decide)]
theorem mkP_y {op w n : Int} {ks : List V.Term} (h : qd2 (oT op w n ks) = true) : mkP op w n ks = (mkT (oT op w n ks), true) := by unfold mkP; rw [if_pos h]
theorem mp_y {B : List Blk} {X : AV} {op w n : Int} {ks : List V.Term} (h : ∀ y, mkP op w n ks = y → frzM B (qbj y.1) X) : frzM B (qbj (mkP op w n ks).1) X := h _ rfl
theorem mp_b {B : List Blk} {X : AV} {op w n : Int} {ks : List V.Term} (h : ∀ y, mkP op w n ks = y → frzM B (.dat (.bool y.2)) X) : frzM B (.dat (.bool (mkP op w n ks).2)) X := h _ rfl
theorem qb4 (op w n : Int) (ks : List V.Term) : CallsV Tryz.prog 136 [.dat (.i op), .dat (.i w), .dat (.i n), .dat (.seq .terms ks)] (.tup [qbj (mkP op w n ks).1, .dat (.bool (mkP op w n ks).2)]) := by
  refine oV Tryz.func136 ⟨?_⟩
  repeat' (first | ((with_reducible refine fun (K1 : KT) hK => ?_); refine stR ⟨?_⟩) | ((with_reducible show K1 _ _); subst hK; conv => whnf) | (with_reducible exact rfl) | refine st0 ⟨?_⟩ | ((with_reducible refine SplS.mk (fun h => ?_) (fun h => ?_)) <;> first | exact ctM | (subst h; conv => whnf) | (conv => whnf)) | refine stB ⟨?_⟩ ⟨?_⟩ | ((with_reducible first | refine pcI (g := 157) ?_ | show Exists _); refine ⟨_, i_TermOk .., rfl, ?_⟩; rotate_right; conv => whnf) | ((with_reducible first | refine pcI (g := 158) ?_ | show Exists _); refine ⟨_, i_reduce (hk := ?_) .., rfl, ?_⟩; rotate_right; conv => whnf) | (intro h; conv => whnf))
  all_goals repeat clear hK K1
  all_goals first | exact True.intro | exact termP_ok asmR | ((first | refine mp_y fun y hz => ?_ | refine mp_b fun y hz => ?_); (first | rw [mkP_n asmR] at hz | rw [mkP_y asmR] at hz); subst hz; first | exact rfl | exact fr5M (V.Term.eta _).symm | exact fr5M rfl | exact fr5Mn rfl) | skip
theorem qm3 {ks : List V.Term} {k : Nat} (h : (k : Int) < ks.length) (hk : okTs ks = true) : okT ⟨(ks.getD (k : Int).toNat K.terms.dflt).op, (ks.getD (k : Int).toNat K.terms.dflt).w, (ks.getD (k : Int).toNat K.terms.dflt).n, (ks.getD (k : Int).toNat K.terms.dflt).name, (ks.getD (k : Int).toNat K.terms.dflt).kids⟩ = true := by
  rw [V.Term.eta]
  exact qdt (i := k) hk omG
theorem sz_at : ∀ {ks : List V.Term} {i : Nat}, i < ks.length → sizeT (kAt ks i) ≤ qbb ks
  | t :: ts, 0, _ => by rw [qbb]; show sizeT t ≤ _; omega
  | t :: ts, i + 1, h => by
    have := sz_at (ks := ts) (i := i) (by simpa using h)
    rw [qbb]
    show sizeT (kAt ts i) ≤ _
    omega
theorem sz_kid {t : V.Term} {k : Nat} (h : (k : Int) < t.kids.length) : sizeT ⟨(t.kids.getD (k : Int).toNat K.terms.dflt).op, (t.kids.getD (k : Int).toNat K.terms.dflt).w, (t.kids.getD (k : Int).toNat K.terms.dflt).n, (t.kids.getD (k : Int).toNat K.terms.dflt).name, (t.kids.getD (k : Int).toNat K.terms.dflt).kids⟩ < sizeT t := by
  rw [V.Term.eta, qil t]
  have := sz_at (ks := t.kids) (i := k) omG
  show sizeT (kAt t.kids k) < _
  omega
theorem take_s {ks : List V.Term} {k : Nat} (h : (k : Int) < ks.length) : ks.take (k + 1) = ks.take k ++ [⟨(ks.getD (k : Int).toNat K.terms.dflt).op, (ks.getD (k : Int).toNat K.terms.dflt).w, (ks.getD (k : Int).toNat K.terms.dflt).n, (ks.getD (k : Int).toNat K.terms.dflt).name, (ks.getD (k : Int).toNat K.terms.dflt).kids⟩] := by
  have hk : k < ks.length := by omega
  have e : ks.getD (k : Int).toNat K.terms.dflt = ks[k] := by
    rw [Int.toNat_natCast, List.getD_eq_getElem?_getD, List.getElem?_eq_getElem hk]; rfl
  rw [V.Term.eta, e, List.take_add_one, List.getElem?_eq_getElem hk]
  rfl
theorem take_l {ks : List V.Term} {k : Nat} (hk : k ≤ ks.length) : (ks.take k).length = k := by simp; omega
structure IHCp (t : V.Term) : Prop where
  call : ∀ (op w n : Int) (nm : ByteArray) (ks : List V.Term), okT ⟨op, w, n, nm, ks⟩ = true → sizeT ⟨op, w, n, nm, ks⟩ < sizeT t →
    CallsV Tryz.prog 143 [.agg [.dat (.i op), .dat (.i w), .dat (.i n), .dat (.str nm), .dat (.seq .terms ks)]] (qbj ⟨op, w, n, nm, ks⟩)
theorem ih_cp {t : V.Term} (ih : IHCp t) {op w n : Int} {nm : ByteArray} {ks : List V.Term} (hk : okT ⟨op, w, n, nm, ks⟩ = true) (hm : sizeT ⟨op, w, n, nm, ks⟩ < sizeT t) :
    CallsV Tryz.prog 143 [.agg [.dat (.i op), .dat (.i w), .dat (.i n), .dat (.str nm), .dat (.seq .terms ks)]] (qbj ⟨op, w, n, nm, ks⟩) := ih.call op w n nm ks hk hm
theorem s_Copy0 (t : V.Term) (ih : IHCp t) (ht : okT t = true) : CallsV Tryz.prog 143 [.agg [.dat (.i t.op), .dat (.i t.w), .dat (.i t.n), .dat (.str t.name), .dat (.seq .terms t.kids)]] (qbj t) := by
  refine oV Tryz.func143 ⟨?_⟩
  repeat' (first | ((with_reducible refine fun (K1 : KT) hK => ?_); refine stR ⟨?_⟩) | ((with_reducible show K1 _ _); subst hK; conv => whnf) | (with_reducible refine frG ?_) | (with_reducible exact rfl) | refine st0 ⟨?_⟩ | ((with_reducible refine SplS.mk (fun h => ?_) (fun h => ?_)) <;> first | exact ctM | (subst h; conv => whnf) | (conv => whnf)) | refine stB ⟨?_⟩ ⟨?_⟩ | (refine Exists.intro ({k : Nat // k ≤ t.kids.length}) (Exists.intro (fun ⟨k, hk⟩ => mkS Tryz.f143.ntmps [(1, .ptr 1 0), (2, .ptr 2 0), (3, .row 3), (8, .dat (.seq .terms t.kids)), (9, .dat (.i t.kids.length)), (10, .dat (.i k))] [(1, .box [.dat (.i t.op), .dat (.i t.w), .dat (.i t.n), .dat (.str t.name), .dat (.seq .terms t.kids)]), (2, .box [.dat (.i 0), .dat (.i 0), .dat (.i 0), .dat (.str ByteArray.empty), .nils]), (3, .row 108 .terms (t.kids.take k) false)]) (Exists.intro (fun ⟨k, hk⟩ => t.kids.length - k) (Exists.intro ⟨0, Nat.zero_le _⟩ (And.intro (SubP.sub (σ := [(1, some 1), (2, some 2), (3, some 6)]) ⟨⟨rfl, rfl, rfl⟩, ⟨⟨rfl, rfl⟩, ⟨rfl, rfl⟩, rfl, (qab ?_), (qab ?_), (qab ?_), trivial⟩, ⟨⟨(qaa ?_), (qaa ?_), (qaa ?_), (qaa ?_), (qaa ?_), trivial⟩, ⟨(qaa ?_), (qaa ?_), (qaa ?_), (qaa ?_), trivial, trivial⟩, ⟨⟨rfl, rfl⟩, ?_⟩, trivial⟩⟩) (fun ⟨k, hk⟩ => ?_))))); rotate_right; conv => whnf) | (refine Exists.intro (⟨k + 1, ?_⟩ : {k : Nat // k ≤ t.kids.length}) (And.intro ?_ (SubP.sub (σ := [(1, some 1), (2, some 2), (3, some 18)]) ⟨⟨rfl, rfl, rfl⟩, ⟨⟨rfl, rfl⟩, ⟨rfl, rfl⟩, rfl, (qab ?_), (qab ?_), (qab ?_), trivial⟩, ⟨⟨(qaa ?_), (qaa ?_), (qaa ?_), (qaa ?_), (qaa ?_), trivial⟩, ⟨(qaa ?_), (qaa ?_), (qaa ?_), (qaa ?_), trivial, trivial⟩, ⟨⟨rfl, rfl⟩, ?_⟩, trivial⟩⟩))) | ((with_reducible first | refine pcI (g := 143) ?_ | show Exists _); refine ⟨_, ih_cp (ih := by assumption) (hk := ?_) (hm := ?_) .., rfl, ?_⟩; rotate_right; conv => whnf) | (intro h; conv => whnf))
  all_goals repeat clear hK K1
  all_goals first | exact True.intro | ((with_reducible show (_ : Int) ≤ _); omega) | ((with_reducible show (_ : Int) < _); with_reducible assumption) | ((with_reducible show okT _ = true); exact qm3 asmR (okT_ks ht)) | ((with_reducible show sizeT _ < _); exact sz_kid asmR) | ((with_reducible show (_ : Nat) < _); (dsimp only; omega)) | (have l3 := len3 ht; exact wr_s omG) | exact congrArg (Sigma.mk K.terms) ((take_s asmR).trans rfl) | ((with_reducible show _ * _ ≤ _); have l3 := len3 ht; have l4 := take_l (ks := t.kids) hk; rw [l4]; exact Nat.le_trans (Nat.mul_le_mul_right _ (show k + 1 ≤ 4 by omega)) (by decide)) | ((with_reducible show _ + _ ≤ _); have l3 := len3 ht; have l4 := take_l (ks := t.kids) hk; rw [l4]; show k + 1 ≤ 2 ^ 63 - 1; omega) | ((with_reducible show _ ≤ _); omega) | (with_reducible assumption) | exact rfl | exact ⟨rfl, rfl, rfl, rfl, congrArg (Dat.seq K.terms) (qh7 (ks := t.kids) (k := k) omG).symm, True.intro⟩ | exact ⟨rfl, rfl, rfl, rfl, rfl, True.intro⟩ | exact ⟨⟨rfl, rfl, rfl, rfl, congrArg (Dat.seq K.terms) (qh7 (ks := t.kids) (k := k) omG).symm, True.intro⟩⟩ | skip
theorem qmz (op w n : Int) (nm : ByteArray) (ks : List V.Term) (hk : okT ⟨op, w, n, nm, ks⟩ = true) :
    CallsV Tryz.prog 143 [.agg [.dat (.i op), .dat (.i w), .dat (.i n), .dat (.str nm), .dat (.seq .terms ks)]] (qbj ⟨op, w, n, nm, ks⟩) := by
  have key : ∀ (k : Nat) (t : V.Term), sizeT t < k → okT t = true →
      CallsV Tryz.prog 143 [.agg [.dat (.i t.op), .dat (.i t.w), .dat (.i t.n), .dat (.str t.name), .dat (.seq .terms t.kids)]] (qbj t) := by
    intro k
    induction k with
    | zero => intro t h; exact absurd h (Nat.not_lt_zero _)
    | succ k ih =>
      intro t h ht
      exact s_Copy0 t ⟨fun op w n nm ks hk hs => ih ⟨op, w, n, nm, ks⟩ omG hk⟩ ht
  exact key _ ⟨op, w, n, nm, ks⟩ (Nat.lt_succ_self _) hk
theorem okT_mk (t : V.Term) (h : okT t = true) : okT ⟨(mkT t).op, (mkT t).w, (mkT t).n, (mkT t).name, (mkT t).kids⟩ = true := by
  rw [V.Term.eta]; exact mkT_ok h
theorem s_MakeTerm (op w n : Int) (ks : List V.Term) (hn : nmTs ks = true) : CallsV Tryz.prog 118 [.dat (.i op), .dat (.i w), .dat (.i n), .dat (.seq .terms ks)] (.tup [qbj (mkP op w n ks).1, .dat (.bool (mkP op w n ks).2)]) := by
  refine oV Tryz.func118 ⟨?_⟩
  repeat' (first | ((with_reducible refine fun (K1 : KT) hK => ?_); refine stR ⟨?_⟩) | ((with_reducible show K1 _ _); subst hK; conv => whnf) | (with_reducible exact rfl) | refine st0 ⟨?_⟩ | ((with_reducible refine SplS.mk (fun h => ?_) (fun h => ?_)) <;> first | exact ctM | (subst h; conv => whnf) | (conv => whnf)) | refine stB ⟨?_⟩ ⟨?_⟩ | ((with_reducible first | refine pcI (g := 144) ?_ | show Exists _); refine ⟨_, s_TermOk (hn := ?_) .., rfl, ?_⟩; rotate_right; conv => whnf) | ((with_reducible first | refine pcI (g := 143) ?_ | show Exists _); refine ⟨_, qmz (hk := ?_) .., rfl, ?_⟩; rotate_right; conv => whnf) | ((with_reducible first | refine pcI (g := 145) ?_ | show Exists _); refine ⟨_, s_l02Make (hk := ?_) .., rfl, ?_⟩; rotate_right; conv => whnf) | (intro h; conv => whnf))
  all_goals repeat clear hK K1
  all_goals first | exact True.intro | exact nmT_o hn | exact termP_ok asmR | exact okT_mk _ (termP_ok asmR) | ((first | refine mp_y fun y hz => ?_ | refine mp_b fun y hz => ?_); (first | rw [mkP_n asmR] at hz | rw [mkP_y asmR] at hz); subst hz; first | exact rfl | exact fr5M (V.Term.eta _).symm | exact fr5M rfl | exact fr5Mn rfl) | skip
end Vg
