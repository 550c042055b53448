/- Terms are made: what is made of a good term is good; MakeTerm of the program and of the reference, copies. Conditions: short names, good terms. -/
import Derived.Test.YtndmanmhalpjgaaGreatDoorTermRd
import Derived.Test.YtndmanmhalpjgaaGreatDoorTermMB
namespace Vg
open Go Go.Proofs
theorem lB {α : Type} {a x : α} {P : Prop} (h : (a, true) = (x, false)) : P := by simp at h
theorem p7 {α : Type} {a x : α} (h : (a, false) = (x, false)) : x = a := by simp at h; exact h.symm
theorem mX : wordP 1 1 = true := by decide
theorem red_no {t x : V.Term} (h : okT t = true) (ho : 1 ≤ t.op ∧ t.op ≤ 21) (hr : l5 t = (x, false)) : okT x = true ∧ x.w = t.w := by
  have a0 := d3 h ho
  unfold l5 at hr
  by_cases c1 : t.op = 1 ∨ t.op = 2
  · rw [if_pos c1] at hr
    unfold yG at hr
    have e := xF h c1
    rcases s1 hr with ⟨c, hr⟩ | ⟨_, hr⟩
    · obtain rfl := p7 hr
      have f := xF a0 omG
      exact ⟨d3 a0 omG, by omega⟩
    · obtain rfl := p7 hr; exact ⟨h, rfl⟩
  rw [if_neg c1] at hr
  by_cases c2 : t.op = 17
  · rw [if_pos c2] at hr
    have e := bO h c2
    unfold aH at hr
    rcases s1 hr with ⟨c, hr⟩ | ⟨c, hr⟩
    · obtain rfl := p7 hr; exact ⟨b4 h omG, e.2.1⟩
    rcases s1 hr with ⟨c, hr⟩ | ⟨c, hr⟩
    · obtain rfl := p7 hr; exact ⟨ok2 h omG, e.2.2⟩
    rcases s1 hr with ⟨c, hr⟩ | ⟨c, hr⟩
    · obtain rfl := p7 hr; exact ⟨b4 h omG, e.2.1⟩
    rcases s1 hr with ⟨c, hr⟩ | ⟨c, hr⟩
    · exact lB hr
    rcases s1 hr with ⟨c, hr⟩ | ⟨c, hr⟩
    · obtain rfl := p7 hr; exact ⟨a0, by omega⟩
    rcases s1 hr with ⟨c, hr⟩ | ⟨c, hr⟩
    · exact lB hr
    · obtain rfl := p7 hr; exact ⟨h, rfl⟩
  rw [if_neg c2] at hr
  by_cases c3 : t.op = 19
  · rw [if_pos c3] at hr
    unfold bH at hr
    rcases s1 hr with ⟨c, hr⟩ | ⟨c, hr⟩
    · obtain rfl := p7 hr; exact ⟨a0, c.2.symm⟩
    rcases s1 hr with ⟨c, hr⟩ | ⟨c, hr⟩
    · exact lB hr
    rcases s1 hr with ⟨c, hr⟩ | ⟨c, hr⟩
    · exact lB hr
    rcases s1 hr with ⟨c, hr⟩ | ⟨c, hr⟩
    · exact lB hr
    rcases s1 hr with ⟨c, hr⟩ | ⟨c, hr⟩
    · exact lB hr
    · obtain rfl := p7 hr; exact ⟨h, rfl⟩
  rw [if_neg c3] at hr
  by_cases c4 : t.op = 20 ∨ t.op = 21
  · rw [if_pos c4] at hr
    unfold xG at hr
    rcases s1 hr with ⟨c, hr⟩ | ⟨c, hr⟩
    · obtain rfl := p7 hr; exact ⟨a0, c.symm⟩
    rcases s1 hr with ⟨c, hr⟩ | ⟨c, hr⟩
    · exact lB hr
    · obtain rfl := p7 hr; exact ⟨h, rfl⟩
  rw [if_neg c4] at hr
  by_cases c5 : t.op = 18
  · rw [if_pos c5] at hr
    unfold zG at hr
    rcases s1 hr with ⟨c, hr⟩ | ⟨c, hr⟩
    · exact lB hr
    · obtain rfl := p7 hr; exact ⟨h, rfl⟩
  rw [if_neg c5] at hr
  have a1 := b4 h omG
  have fb := fun q => pD h q
  have fr := fun q => aO h q
  unfold f4 at hr
  rcases s1 hr with ⟨c, hr⟩ | ⟨c, hr⟩
  · exact lB hr
  rcases s1 hr with ⟨c, hr⟩ | ⟨c, hr⟩
  · obtain rfl := p7 hr
    refine ⟨a1, ?_⟩
    by_cases q : t.op = 14
    · have := fr omG; omega
    · exact (fb omG).2
  rcases s1 hr with ⟨c, hr⟩ | ⟨c, hr⟩
  · obtain rfl := p7 hr; exact ⟨p8 (zero_word (k4 h)), rfl⟩
  rcases s1 hr with ⟨c, hr⟩ | ⟨c, hr⟩
  · obtain rfl := p7 hr
    have := (fb omG).1
    rw [this]
    exact ⟨p8 (oR (k4 h)), rfl⟩
  rcases s1 hr with ⟨c, hr⟩ | ⟨c, hr⟩
  · exact lB hr
  rcases s1 hr with ⟨c, hr⟩ | ⟨c, hr⟩
  · obtain rfl := p7 hr; exact ⟨a0, (fb omG).1⟩
  rcases s1 hr with ⟨c, hr⟩ | ⟨c, hr⟩
  · obtain rfl := p7 hr; exact ⟨p8 (zero_word rfl), (fr omG).2.symm⟩
  rcases s1 hr with ⟨c, hr⟩ | ⟨c, hr⟩
  · obtain rfl := p7 hr; exact ⟨a0, (fb omG).1⟩
  rcases s1 hr with ⟨c, hr⟩ | ⟨c, hr⟩
  · obtain rfl := p7 hr; exact ⟨p8 (zero_word (k4 h)), rfl⟩
  rcases s1 hr with ⟨c, hr⟩ | ⟨c, hr⟩
  · obtain rfl := p7 hr; exact ⟨p8 mX, (fr omG).2.symm⟩
  rcases s1 hr with ⟨c, hr⟩ | ⟨c, hr⟩
  · exact lB hr
  · obtain rfl := p7 hr; exact ⟨h, rfl⟩
theorem red_w {t x : V.Term} (hr : l5 t = (x, true)) : x.w = t.w := by
  unfold l5 at hr
  by_cases c1 : t.op = 1 ∨ t.op = 2
  · rw [if_pos c1] at hr
    unfold yG at hr
    rcases s1 hr with ⟨_, hr⟩ | ⟨_, hr⟩ <;> exact k5 hr
  rw [if_neg c1] at hr
  by_cases c2 : t.op = 17
  · rw [if_pos c2] at hr
    unfold aH at hr
    rcases s1 hr with ⟨c, hr⟩ | ⟨c, hr⟩
    · exact k5 hr
    rcases s1 hr with ⟨c, hr⟩ | ⟨c, hr⟩
    · exact k5 hr
    rcases s1 hr with ⟨c, hr⟩ | ⟨c, hr⟩
    · exact k5 hr
    rcases s1 hr with ⟨c, hr⟩ | ⟨c, hr⟩
    · obtain rfl := l7 hr; rfl
    rcases s1 hr with ⟨c, hr⟩ | ⟨c, hr⟩
    · exact k5 hr
    rcases s1 hr with ⟨c, hr⟩ | ⟨c, hr⟩
    · obtain rfl := l7 hr; exact c.1.symm
    · exact k5 hr
  rw [if_neg c2] at hr
  by_cases c3 : t.op = 19
  · rw [if_pos c3] at hr
    unfold bH at hr
    rcases s1 hr with ⟨c, hr⟩ | ⟨c, hr⟩
    · exact k5 hr
    rcases s1 hr with ⟨c, hr⟩ | ⟨c, hr⟩
    · obtain rfl := l7 hr; rfl
    rcases s1 hr with ⟨c, hr⟩ | ⟨c, hr⟩
    · obtain rfl := l7 hr; rfl
    rcases s1 hr with ⟨c, hr⟩ | ⟨c, hr⟩
    · obtain rfl := l7 hr; rfl
    rcases s1 hr with ⟨c, hr⟩ | ⟨c, hr⟩
    · obtain rfl := l7 hr; rfl
    · exact k5 hr
  rw [if_neg c3] at hr
  by_cases c4 : t.op = 20 ∨ t.op = 21
  · rw [if_pos c4] at hr
    unfold xG at hr
    rcases s1 hr with ⟨c, hr⟩ | ⟨c, hr⟩
    · exact k5 hr
    rcases s1 hr with ⟨c, hr⟩ | ⟨c, hr⟩
    · obtain rfl := l7 hr; rfl
    · exact k5 hr
  rw [if_neg c4] at hr
  by_cases c5 : t.op = 18
  · rw [if_pos c5] at hr
    unfold zG at hr
    rcases s1 hr with ⟨c, hr⟩ | ⟨c, hr⟩
    · obtain rfl := l7 hr; rfl
    · exact k5 hr
  rw [if_neg c5] at hr
  unfold f4 at hr
  rcases s1 hr with ⟨c, hr⟩ | ⟨c, hr⟩
  · obtain rfl := l7 hr; rfl
  rcases s1 hr with ⟨c, hr⟩ | ⟨c, hr⟩
  · exact k5 hr
  rcases s1 hr with ⟨c, hr⟩ | ⟨c, hr⟩
  · exact k5 hr
  rcases s1 hr with ⟨c, hr⟩ | ⟨c, hr⟩
  · exact k5 hr
  rcases s1 hr with ⟨c, hr⟩ | ⟨c, hr⟩
  · obtain rfl := l7 hr; rfl
  rcases s1 hr with ⟨c, hr⟩ | ⟨c, hr⟩
  · exact k5 hr
  rcases s1 hr with ⟨c, hr⟩ | ⟨c, hr⟩
  · exact k5 hr
  rcases s1 hr with ⟨c, hr⟩ | ⟨c, hr⟩
  · exact k5 hr
  rcases s1 hr with ⟨c, hr⟩ | ⟨c, hr⟩
  · exact k5 hr
  rcases s1 hr with ⟨c, hr⟩ | ⟨c, hr⟩
  · exact k5 hr
  rcases s1 hr with ⟨c, hr⟩ | ⟨c, hr⟩
  · obtain rfl := l7 hr; rfl
  · exact k5 hr
theorem yR : ∀ (f : Nat) (t : V.Term), okT t = true → okT (y8 f t) = true ∧ (y8 f t).w = t.w
  | 0, t, h => ⟨h, rfl⟩
  | f + 1, t, h => by
    rw [y8]
    by_cases c1 : t.kids.length = 0
    · rw [if_pos c1]; exact ⟨h, rfl⟩
    rw [if_neg c1]
    have ho : 1 ≤ t.op ∧ t.op ≤ 21 := qJ h (fun e => c1 (by rw [e]; rfl))
    by_cases c2 : o4 t.kids = true
    · rw [if_pos c2]; exact ⟨p8 (ap_w h ho c2), rfl⟩
    rw [if_neg c2]
    by_cases c3 : (l5 t).2 = true
    · rw [if_pos c3]
      have h1 := l9 (x := (l5 t).1) h ho (Prod.ext rfl c3)
      have h2 := red_w (x := (l5 t).1) (Prod.ext rfl c3)
      have h3 := yR f _ h1.1
      exact ⟨h3.1, h3.2.trans h2⟩
    · rw [if_neg c3]
      exact red_no (x := (l5 t).1) h ho (Prod.ext rfl (by simpa using c3))
theorem mkT_ok {t : V.Term} (h : okT t = true) : okT (d4 t) = true := (yR _ t h).1
theorem termP_ok {t : V.Term} (h : m7 t = true) : okT t = true := by
  unfold m7 at h
  simp only [Bool.and_eq_true] at h
  exact h.1.2
/-! ### making a term -/
noncomputable def p4 (op w n : Int) (ks : List V.Term) : V.Term × Bool := if m7 (oT op w n ks) = true then (d4 (oT op w n ks), true) else (zT, false)
theorem mkP_n {op w n : Int} {ks : List V.Term} (h : m7 (oT op w n ks) = false) : p4 op w n ks = (zT, false) := by unfold p4; rw [if_neg (by rw [h]; decide)]
theorem fK {op w n : Int} {ks : List V.Term} (h : m7 (oT op w n ks) = true) : p4 op w n ks = (d4 (oT op w n ks), true) := by unfold p4; rw [if_pos h]
theorem mp_y {B : List Blk} {X : AV} {op w n : Int} {ks : List V.Term} (h : ∀ y, p4 op w n ks = y → s8 B (s5 y.1) X) : s8 B (s5 (p4 op w n ks).1) X := h _ rfl
theorem mp_b {B : List Blk} {X : AV} {op w n : Int} {ks : List V.Term} (h : ∀ y, p4 op w n ks = y → s8 B (.dat (.bool y.2)) X) : s8 B (.dat (.bool (p4 op w n ks).2)) X := h _ rfl
set_option maxRecDepth 100000 in
theorem i_makeTerm (op w n : Int) (ks : List V.Term) : CallsV Tryz.prog 49 [.dat (.i op), .dat (.i w), .dat (.i n), .dat (.seq .terms ks)] (.tup [s5 (p4 op w n ks).1, .dat (.bool (p4 op w n ks).2)]) := by
  refine oV Tryz.func49 ⟨?_⟩
  repeat' (first | ((with_reducible refine fun (K1 : KT) hK => ?_); refine iA ⟨?_⟩) | ((with_reducible show K1 _ _); subst hK; conv => whnf) | (with_reducible exact rfl) | refine m0 ⟨?_⟩ | ((with_reducible refine SplS.mk (fun h => ?_) (fun h => ?_)) <;> first | exact z1 | (subst h; conv => whnf) | (conv => whnf)) | refine u2 ⟨?_⟩ ⟨?_⟩ | ((with_reducible first | refine g0 (g := 48) ?_ | show Exists _); refine ⟨_, gT .., rfl, ?_⟩; rotate_right; conv => whnf) | ((with_reducible first | refine g0 (g := 66) ?_ | show Exists _); refine ⟨_, fZ (hk := ?_) .., rfl, ?_⟩; rotate_right; conv => whnf) | (intro h; conv => whnf))
  all_goals repeat clear hK K1
  all_goals first | exact True.intro | exact termP_ok asmR | ((first | refine mp_y fun y hz => ?_ | refine mp_b fun y hz => ?_); (first | rw [mkP_n asmR] at hz | rw [fK asmR] at hz); subst hz; first | exact rfl | exact fr5M (V.Term.eta _).symm | exact fr5M rfl | exact fr5Mn rfl) | skip
end Vg
