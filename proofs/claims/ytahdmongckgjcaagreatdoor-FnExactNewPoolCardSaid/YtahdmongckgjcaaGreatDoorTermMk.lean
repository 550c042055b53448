/- Terms are made: what is made of a good term is good; MakeTerm of the program and of the reference, copies. Conditions: short names, good terms. -/
import Derived.Test.YtahdmongckgjcaaGreatDoorTermRd
import Derived.Test.YtahdmongckgjcaaGreatDoorTermMB
namespace Vg
open Go Go.Proofs
theorem yes_no {α : Type} {a x : α} {P : Prop} (h : (a, true) = (x, false)) : P := by simp at h
theorem is_no {α : Type} {a x : α} (h : (a, false) = (x, false)) : x = a := by simp at h; exact h.symm
theorem one_word : wordP 1 1 = true := by decide
theorem red_no {t x : V.Term} (h : okT t = true) (ho : 1 ≤ t.op ∧ t.op ≤ 21) (hr : redS t = (x, false)) : okT x = true ∧ x.w = t.w := by
  have a0 := ok0 h ho
  unfold redS at hr
  by_cases c1 : t.op = 1 ∨ t.op = 2
  · rw [if_pos c1] at hr
    unfold redU at hr
    have e := fit_u h c1
    rcases ite_or hr with ⟨c, hr⟩ | ⟨_, hr⟩
    · obtain rfl := is_no hr
      have f := fit_u a0 (by omega)
      exact ⟨ok0 a0 (by omega), by omega⟩
    · obtain rfl := is_no hr; exact ⟨h, rfl⟩
  rw [if_neg c1] at hr
  by_cases c2 : t.op = 17
  · rw [if_pos c2] at hr
    have e := fit_i h c2
    unfold redI at hr
    rcases ite_or hr with ⟨c, hr⟩ | ⟨c, hr⟩
    · obtain rfl := is_no hr; exact ⟨ok1 h (by omega), e.2.1⟩
    rcases ite_or hr with ⟨c, hr⟩ | ⟨c, hr⟩
    · obtain rfl := is_no hr; exact ⟨ok2 h (by omega), e.2.2⟩
    rcases ite_or hr with ⟨c, hr⟩ | ⟨c, hr⟩
    · obtain rfl := is_no hr; exact ⟨ok1 h (by omega), e.2.1⟩
    rcases ite_or hr with ⟨c, hr⟩ | ⟨c, hr⟩
    · exact yes_no hr
    rcases ite_or hr with ⟨c, hr⟩ | ⟨c, hr⟩
    · obtain rfl := is_no hr; exact ⟨a0, by omega⟩
    rcases ite_or hr with ⟨c, hr⟩ | ⟨c, hr⟩
    · exact yes_no hr
    · obtain rfl := is_no hr; exact ⟨h, rfl⟩
  rw [if_neg c2] at hr
  by_cases c3 : t.op = 19
  · rw [if_pos c3] at hr
    unfold redC at hr
    rcases ite_or hr with ⟨c, hr⟩ | ⟨c, hr⟩
    · obtain rfl := is_no hr; exact ⟨a0, c.2.symm⟩
    rcases ite_or hr with ⟨c, hr⟩ | ⟨c, hr⟩
    · exact yes_no hr
    rcases ite_or hr with ⟨c, hr⟩ | ⟨c, hr⟩
    · exact yes_no hr
    rcases ite_or hr with ⟨c, hr⟩ | ⟨c, hr⟩
    · exact yes_no hr
    rcases ite_or hr with ⟨c, hr⟩ | ⟨c, hr⟩
    · exact yes_no hr
    · obtain rfl := is_no hr; exact ⟨h, rfl⟩
  rw [if_neg c3] at hr
  by_cases c4 : t.op = 20 ∨ t.op = 21
  · rw [if_pos c4] at hr
    unfold redW at hr
    rcases ite_or hr with ⟨c, hr⟩ | ⟨c, hr⟩
    · obtain rfl := is_no hr; exact ⟨a0, c.symm⟩
    rcases ite_or hr with ⟨c, hr⟩ | ⟨c, hr⟩
    · exact yes_no hr
    · obtain rfl := is_no hr; exact ⟨h, rfl⟩
  rw [if_neg c4] at hr
  by_cases c5 : t.op = 18
  · rw [if_pos c5] at hr
    unfold redJ at hr
    rcases ite_or hr with ⟨c, hr⟩ | ⟨c, hr⟩
    · exact yes_no hr
    · obtain rfl := is_no hr; exact ⟨h, rfl⟩
  rw [if_neg c5] at hr
  have a1 := ok1 h (by omega)
  have fb := fun q => fit_b h q
  have fr := fun q => fit_r h q
  unfold redB at hr
  rcases ite_or hr with ⟨c, hr⟩ | ⟨c, hr⟩
  · exact yes_no hr
  rcases ite_or hr with ⟨c, hr⟩ | ⟨c, hr⟩
  · obtain rfl := is_no hr
    refine ⟨a1, ?_⟩
    by_cases q : t.op = 14
    · have := fr (by omega); omega
    · exact (fb (by omega)).2
  rcases ite_or hr with ⟨c, hr⟩ | ⟨c, hr⟩
  · obtain rfl := is_no hr; exact ⟨mk_c (zero_word (okT_w' h)), rfl⟩
  rcases ite_or hr with ⟨c, hr⟩ | ⟨c, hr⟩
  · obtain rfl := is_no hr
    have := (fb (by omega)).1
    rw [this]
    exact ⟨mk_c (on_word (okT_w' h)), rfl⟩
  rcases ite_or hr with ⟨c, hr⟩ | ⟨c, hr⟩
  · exact yes_no hr
  rcases ite_or hr with ⟨c, hr⟩ | ⟨c, hr⟩
  · obtain rfl := is_no hr; exact ⟨a0, (fb (by omega)).1⟩
  rcases ite_or hr with ⟨c, hr⟩ | ⟨c, hr⟩
  · obtain rfl := is_no hr; exact ⟨mk_c (zero_word rfl), (fr (by omega)).2.symm⟩
  rcases ite_or hr with ⟨c, hr⟩ | ⟨c, hr⟩
  · obtain rfl := is_no hr; exact ⟨a0, (fb (by omega)).1⟩
  rcases ite_or hr with ⟨c, hr⟩ | ⟨c, hr⟩
  · obtain rfl := is_no hr; exact ⟨mk_c (zero_word (okT_w' h)), rfl⟩
  rcases ite_or hr with ⟨c, hr⟩ | ⟨c, hr⟩
  · obtain rfl := is_no hr; exact ⟨mk_c one_word, (fr (by omega)).2.symm⟩
  rcases ite_or hr with ⟨c, hr⟩ | ⟨c, hr⟩
  · exact yes_no hr
  · obtain rfl := is_no hr; exact ⟨h, rfl⟩
/-- a rule that goes on keeps the width -/
theorem red_w {t x : V.Term} (hr : redS t = (x, true)) : x.w = t.w := by
  unfold redS at hr
  by_cases c1 : t.op = 1 ∨ t.op = 2
  · rw [if_pos c1] at hr
    unfold redU at hr
    rcases ite_or hr with ⟨_, hr⟩ | ⟨_, hr⟩ <;> exact no_again hr
  rw [if_neg c1] at hr
  by_cases c2 : t.op = 17
  · rw [if_pos c2] at hr
    unfold redI at hr
    rcases ite_or hr with ⟨c, hr⟩ | ⟨c, hr⟩
    · exact no_again hr
    rcases ite_or hr with ⟨c, hr⟩ | ⟨c, hr⟩
    · exact no_again hr
    rcases ite_or hr with ⟨c, hr⟩ | ⟨c, hr⟩
    · exact no_again hr
    rcases ite_or hr with ⟨c, hr⟩ | ⟨c, hr⟩
    · obtain rfl := is_again hr; rfl
    rcases ite_or hr with ⟨c, hr⟩ | ⟨c, hr⟩
    · exact no_again hr
    rcases ite_or hr with ⟨c, hr⟩ | ⟨c, hr⟩
    · obtain rfl := is_again hr; exact c.1.symm
    · exact no_again hr
  rw [if_neg c2] at hr
  by_cases c3 : t.op = 19
  · rw [if_pos c3] at hr
    unfold redC at hr
    rcases ite_or hr with ⟨c, hr⟩ | ⟨c, hr⟩
    · exact no_again hr
    rcases ite_or hr with ⟨c, hr⟩ | ⟨c, hr⟩
    · obtain rfl := is_again hr; rfl
    rcases ite_or hr with ⟨c, hr⟩ | ⟨c, hr⟩
    · obtain rfl := is_again hr; rfl
    rcases ite_or hr with ⟨c, hr⟩ | ⟨c, hr⟩
    · obtain rfl := is_again hr; rfl
    rcases ite_or hr with ⟨c, hr⟩ | ⟨c, hr⟩
    · obtain rfl := is_again hr; rfl
    · exact no_again hr
  rw [if_neg c3] at hr
  by_cases c4 : t.op = 20 ∨ t.op = 21
  · rw [if_pos c4] at hr
    unfold redW at hr
    rcases ite_or hr with ⟨c, hr⟩ | ⟨c, hr⟩
    · exact no_again hr
    rcases ite_or hr with ⟨c, hr⟩ | ⟨c, hr⟩
    · obtain rfl := is_again hr; rfl
    · exact no_again hr
  rw [if_neg c4] at hr
  by_cases c5 : t.op = 18
  · rw [if_pos c5] at hr
    unfold redJ at hr
    rcases ite_or hr with ⟨c, hr⟩ | ⟨c, hr⟩
    · obtain rfl := is_again hr; rfl
    · exact no_again hr
  rw [if_neg c5] at hr
  unfold redB at hr
  rcases ite_or hr with ⟨c, hr⟩ | ⟨c, hr⟩
  · obtain rfl := is_again hr; rfl
  rcases ite_or hr with ⟨c, hr⟩ | ⟨c, hr⟩
  · exact no_again hr
  rcases ite_or hr with ⟨c, hr⟩ | ⟨c, hr⟩
  · exact no_again hr
  rcases ite_or hr with ⟨c, hr⟩ | ⟨c, hr⟩
  · exact no_again hr
  rcases ite_or hr with ⟨c, hr⟩ | ⟨c, hr⟩
  · obtain rfl := is_again hr; rfl
  rcases ite_or hr with ⟨c, hr⟩ | ⟨c, hr⟩
  · exact no_again hr
  rcases ite_or hr with ⟨c, hr⟩ | ⟨c, hr⟩
  · exact no_again hr
  rcases ite_or hr with ⟨c, hr⟩ | ⟨c, hr⟩
  · exact no_again hr
  rcases ite_or hr with ⟨c, hr⟩ | ⟨c, hr⟩
  · exact no_again hr
  rcases ite_or hr with ⟨c, hr⟩ | ⟨c, hr⟩
  · exact no_again hr
  rcases ite_or hr with ⟨c, hr⟩ | ⟨c, hr⟩
  · obtain rfl := is_again hr; rfl
  · exact no_again hr
theorem mkF_ok : ∀ (f : Nat) (t : V.Term), okT t = true → okT (mkF f t) = true ∧ (mkF f t).w = t.w
  | 0, t, h => ⟨h, rfl⟩
  | f + 1, t, h => by
    rw [mkF]
    by_cases c1 : t.kids.length = 0
    · rw [if_pos c1]; exact ⟨h, rfl⟩
    rw [if_neg c1]
    have ho : 1 ≤ t.op ∧ t.op ≤ 21 := okT_op' h (fun e => c1 (by rw [e]; rfl))
    by_cases c2 : allC t.kids = true
    · rw [if_pos c2]; exact ⟨mk_c (ap_w h ho c2), rfl⟩
    rw [if_neg c2]
    by_cases c3 : (redS t).2 = true
    · rw [if_pos c3]
      have h1 := red_ok (x := (redS t).1) h ho (Prod.ext rfl c3)
      have h2 := red_w (x := (redS t).1) (Prod.ext rfl c3)
      have h3 := mkF_ok f _ h1.1
      exact ⟨h3.1, h3.2.trans h2⟩
    · rw [if_neg c3]
      exact red_no (x := (redS t).1) h ho (Prod.ext rfl (by simpa using c3))
theorem mkT_ok {t : V.Term} (h : okT t = true) : okT (mkT t) = true := (mkF_ok _ t h).1
theorem mkT_w {t : V.Term} (h : okT t = true) : (mkT t).w = t.w := (mkF_ok _ t h).2
theorem termP_ok {t : V.Term} (h : termP t = true) : okT t = true := by
  unfold termP at h
  simp only [Bool.and_eq_true] at h
  exact h.1.2
/-! ### making a term -/
noncomputable def mkP (op w n : Int) (ks : List V.Term) : V.Term × Bool := if termP (oT op w n ks) = true then (mkT (oT op w n ks), true) else (zT, false)
theorem mkP_n {op w n : Int} {ks : List V.Term} (h : termP (oT op w n ks) = false) : mkP op w n ks = (zT, false) := by unfold mkP; rw [if_neg (by rw [h]; decide)]
theorem mkP_y {op w n : Int} {ks : List V.Term} (h : termP (oT op w n ks) = true) : mkP op w n ks = (mkT (oT op w n ks), true) := by unfold mkP; rw [if_pos h]
theorem mp_y {B : List Blk} {X : AV} {op w n : Int} {ks : List V.Term} (h : ∀ y, mkP op w n ks = y → frzM B (datT y.1) X) : frzM B (datT (mkP op w n ks).1) X := h _ rfl
theorem mp_b {B : List Blk} {X : AV} {op w n : Int} {ks : List V.Term} (h : ∀ y, mkP op w n ks = y → frzM B (.dat (.bool y.2)) X) : frzM B (.dat (.bool (mkP op w n ks).2)) X := h _ rfl
set_option maxRecDepth 100000 in
theorem i_makeTerm (op w n : Int) (ks : List V.Term) : CallsV Tryz.prog 125 [.dat (.i op), .dat (.i w), .dat (.i n), .dat (.seq .terms ks)] (.tup [datT (mkP op w n ks).1, .dat (.bool (mkP op w n ks).2)]) := by
  refine CallsV.of_awp tauOk mixOk Tryz.func125 rfl rfl rfl ?_
  conv => whnf
  repeat' (first
    | ((with_reducible refine fun (K1 : AX → AState → Prop) hK => ?_); (with_reducible refine awp_rg ?_ ?_); exact rfl; conv => whnf)
    | ((with_reducible refine fun (K1 : AX → AState → Prop) hK => ?_); conv => whnf)
    | ((with_reducible show K1 _ _); subst hK; conv => whnf)
    | (with_reducible exact rfl)
    | ((with_reducible refine sp_nb (fun h => ?_) (fun h => ?_)) <;> first | (exact Bool.noConfusion (Eq.trans (Eq.symm h) (show _ = true by with_reducible assumption))) | (exact Bool.noConfusion (Eq.trans (Eq.symm (show _ = false by with_reducible assumption)) h)) | (conv => whnf))
    | (refine ⟨(rfl : nodupB _ = true), rfl, ?_⟩; conv => whnf)
    | ((with_reducible refine and_of ?_ ?_); conv => whnf)
    | ((with_reducible refine pcI (g := 142) ?_); refine ⟨_, i_TermOk .., rfl, ?_⟩; rotate_right; conv => whnf)
    | ((with_reducible show Exists _); refine Exists.intro _ (And.intro (i_TermOk ..) (And.intro rfl ?_)); rotate_right; conv => whnf)
    | ((with_reducible refine pcI (g := 143) ?_); refine ⟨_, i_reduce (hk := ?_) .., rfl, ?_⟩; rotate_right; conv => whnf)
    | ((with_reducible show Exists _); refine Exists.intro _ (And.intro (i_reduce (hk := ?_) ..) (And.intro rfl ?_)); rotate_right; conv => whnf)
    | ((with_reducible show awpOps _ _ _ _ _ _); conv => whnf)
    | (intro h; conv => whnf))
  all_goals (repeat (clear hK; clear K1))
  all_goals first
    | exact True.intro
    | exact termP_ok (by with_reducible assumption)
    | ((first | refine mp_y fun y hz => ?_ | refine mp_b fun y hz => ?_); (first | rw [mkP_n (by with_reducible assumption)] at hz | rw [mkP_y (by with_reducible assumption)] at hz); subst hz; first | exact rfl | exact fr5M (V.Term.eta _).symm | exact fr5M rfl | exact fr5Mn rfl)
    | skip
end Vg
