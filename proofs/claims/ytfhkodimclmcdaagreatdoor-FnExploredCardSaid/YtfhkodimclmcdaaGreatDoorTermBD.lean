/- Walks and laws that the proof leans on. No condition. -/
import Derived.Test.YtfhkodimclmcdaaGreatDoorTermXC
namespace Vg
open Go Go.Proofs
set_option maxRecDepth 100000
set_option maxHeartbeats 40000000
theorem iO (k : Int) (hk : k = 6 \/ k = 7 \/ k = 11 \/ k = 12 \/ k = 13) (t : V.Term) (ih : IHR (l5 t)) (ht : okT t = true) (ho : t.op = k) (hc : k5 t.kids = false) : CallsV Tryz.prog 189 [.agg [.dat (.i k),.dat (.i t.w),.dat (.i t.n),.dat (.str t.name),.dat (.seq .terms t.kids)]] (i5 (j4 t)) := by
  rcases hk with rfl|rfl|rfl|rfl|rfl
  all_goals as_aux_lemma =>
    refine oV Tryz.func189 ⟨?_⟩
    repeat' (first|((with_reducible refine fun (K1 : KT) hK=>?_);refine r3 ⟨?_⟩)|((with_reducible show K1 _ _);subst hK;conv=>whnf)|(with_reducible refine a8 ?_)|(with_reducible exact rfl)|refine y7 ⟨?_⟩|((with_reducible show WEach _ _);refine rA rfl ?_ ?_;conv=>whnf)|refine st0 ⟨?_⟩|((with_reducible refine SplS.mk (fun h=>?_) (fun h=>?_)) <;> first|exact u5|(subst h;conv=>whnf)|(conv=>whnf))|refine f2 ⟨?_⟩ ⟨?_⟩|refine vP (pL ..) ⟨?_⟩|refine vP (pF ..) ⟨?_⟩|refine vP (rL (ih := by assumption) (ha := ?_) (hw := ?_) (h9 := ?_) (hk := ?_) ..) ⟨?_⟩|refine vP (kI ..) ⟨?_⟩|refine vP (jI ..) ⟨?_⟩|fail)
    all_goals repeat clear hK K1
    all_goals first|((with_reducible show (_ : Int) <= _);omega)|((with_reducible show (_ : Int) < _);first|exact j6 ht omG|exact s6 ht omG|exact j6 (y4 ht omG) omG|exact s6 (y4 ht omG) omG|omega)|((with_reducible show inP _ _ _ = true);first|exact d7 ht|exact d7 (ok0 ht omG))|((with_reducible show F9 _ _ _);exact dM ht ho omG)|((with_reducible show FK _ _ _ _ _);(try simp only [Int.toNat_zero,Int.toNat_one] at *);exact bM ht ho omG (by first|exact xD ho|exact jB ho|exact jD ho|exact pB ho|exact oB ho) asmR)|((with_reducible show Fr _);(try simp only [V.Term.eta,Int.toNat_zero,Int.toNat_one] at *);exact ⟨k4 ((tJ ht ho omG hc (by first|exact xD ho|exact jB ho|exact jD ho|exact pB ho|exact oB ho) asmR asmR).trans (V.Term.eta _).symm)⟩)|((try simp only [V.Term.eta,Int.toNat_zero,Int.toNat_one] at *);obtain ⟨y,hy⟩ : ∃ y,a6 t = y := ⟨_,rfl⟩;have hz := hy;(first|rw [tD (by first|exact xD ho|exact jB ho|exact jD ho|exact pB ho|exact oB ho) asmR] at hz|(first|rw [n1_6 ho (by first|exact xD ho|exact jB ho|exact jD ho|exact pB ho|exact oB ho) asmR] at hz|rw [n1_7 ho (by first|exact jB ho|exact jB ho|exact jD ho|exact pB ho|exact oB ho) asmR] at hz|rw [n1_11 ho (by first|exact jD ho|exact jB ho|exact jD ho|exact pB ho|exact oB ho) asmR] at hz|rw [n1_12 ho (by first|exact pB ho|exact jB ho|exact jD ho|exact pB ho|exact oB ho) asmR] at hz|rw [n1_13 ho (by first|exact oB ho|exact jB ho|exact jD ho|exact pB ho|exact oB ho) asmR] at hz));(first|rw [r2_6 ho] at hz|rw [r2_7 ho] at hz|rw [r2_11 ho] at hz|rw [r2_12 ho] at hz|rw [r2_13 ho] at hz);(repeat (first|rw [if_pos asmR] at hz|rw [if_neg asmR] at hz|rw [if_pos ⟨by with_reducible assumption,by with_reducible assumption,by with_reducible assumption⟩] at hz|rw [if_neg (nE asmR)] at hz|rw [if_neg (mE asmR)] at hz|rw [if_neg (lE asmR)] at hz));rw [<- hz] at hy;first|exact (z7 ht omG hy).1|exact (z7 ht omG hy).2|exact ⟨k4 ((n7 ht omG hc hy).trans (V.Term.eta _).symm)⟩|exact ⟨k4 ((n7 ht omG hc hy).trans (te_of ho))⟩|exact ⟨k4 (n7 ht omG hc hy)⟩|exact ⟨k4 ((fB ht omG hc hy).trans (V.Term.eta _).symm)⟩)|skip
abbrev i_rB6 := @iO 6 (.inl rfl)
abbrev i_rB7 := @iO 7 (.inr (.inl rfl))
abbrev i_rB11 := @iO 11 (.inr (.inr (.inl rfl)))
abbrev i_rB12 := @iO 12 (.inr (.inr (.inr (.inl rfl))))
abbrev i_rB13 := @iO 13 (.inr (.inr (.inr (.inr (rfl)))))
end Vg
