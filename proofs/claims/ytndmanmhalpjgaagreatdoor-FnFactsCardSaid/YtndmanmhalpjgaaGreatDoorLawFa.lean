/- The law FnFacts: the term of a fact says what the fact says, and facts are read from their texts. No condition. -/
import Derived.Test.YtndmanmhalpjgaaGreatDoorFTI
import Derived.Test.YtndmanmhalpjgaaGreatDoorFtC
import Derived.Test.YtndmanmhalpjgaaGreatDoorLawPF
import Derived.Test.YtndmanmhalpjgaaGreatDoorGiv2
import Derived.Test.YtndmanmhalpjgaaGreatDoorRet
namespace Vg
open Go Go.Proofs
set_option maxRecDepth 100000
set_option maxHeartbeats 40000000
theorem eq_Fact : sI Tryz.prog 29 4 := aggEq4 (T := 29) (t := 3) rfl rfl (by kernel_rfl) (by kernel_rfl) rfl (by decide) ⟨rfl, rfl, rfl, rfl⟩ ⟨rfl, rfl, rfl, rfl⟩
theorem sW (w n : Int) (h : wordP w n = true) : CallsV Tryz.prog 10 [.dat (.i w), .dat (.i n)] (s5 (cT w n)) := by
  refine oV Tryz.func10 ⟨?_⟩
  repeat' (first | ((with_reducible refine fun (K1 : KT) hK => ?_); refine iA ⟨?_⟩) | ((with_reducible show K1 _ _); subst hK; conv => whnf) | (with_reducible exact rfl) | refine m0 ⟨?_⟩ | ((with_reducible refine SplS.mk (fun h => ?_) (fun h => ?_)) <;> first | exact z1 | (subst h; conv => whnf) | (conv => whnf)) | refine u2 ⟨?_⟩ ⟨?_⟩ | ((with_reducible first | refine g0 (g := 26) ?_ | show Exists _); refine ⟨_, hJ .., rfl, ?_⟩; rotate_right; conv => whnf) | ((with_reducible first | refine g0 (g := 27) ?_ | show Exists _); refine ⟨_, pW .., rfl, ?_⟩; rotate_right; conv => whnf) | (intro h; conv => whnf))
  all_goals repeat clear hK K1
  all_goals first | exact ⟨rfl, rfl, rfl, rfl, trivial⟩ | exact True.intro | exact rfl | (with_reducible assumption) | skip
def y6 (w : Int) (b : List Int) : Nat → List Int
  | 0 => []
  | k + 1 => y6 w b k ++ [a7 w (numX b (70 + 2 * (k : Int)))]
section
variable {w : Int} {b : List Int} {k : Nat}
theorem iD : ∀ {k : Nat}, (y6 w b k).length = k
  | 0 => rfl
  | k + 1 => by rw [y6, List.length_append, iD]; rfl
theorem lJ (hw : inP w 1 16 = true) : ∀ (k : Nat), ∀ x, x ∈ y6 w b k → wordP w x = true
  | 0 => fun x hx => by simp [y6] at hx
  | k + 1 => fun x hx => by
    rw [y6, List.mem_append] at hx
    rcases hx with hx | hx
    · exact lJ hw k x hx
    · rw [List.mem_singleton] at hx; subst hx; exact wordOf_word _ hw
theorem rg_ix (h : (k : Int) < 4) : IntKind.i64.wrap (70 + IntKind.i64.wrap (2 * (k : Int))) = 70 + 2 * (k : Int) := by
  rw [u4 (n := 2 * (k : Int)) omG omG, u4 omG omG]
theorem rg_s (h : (k : Int) < 4) : y6 w b (k + 1) = y6 w b k ++ [a7 w (numX b (IntKind.i64.wrap (70 + IntKind.i64.wrap (2 * (k : Int)))))] := by rw [rg_ix h]; rfl
theorem rt_s (h : (k : Int) < 4) : (y6 w b (k + 1)).map (cT w) = (y6 w b k).map (cT w) ++ [cT w (a7 w (numX b (IntKind.i64.wrap (70 + IntKind.i64.wrap (2 * (k : Int))))))] := by rw [rg_s h, List.map_append]; rfl
end
theorem cT_term {w x : Int} (h : wordP w x = true) : m7 (cT w x) = true := by
  unfold m7
  simp only [Bool.and_eq_true, decide_eq_true_eq]
  refine ⟨⟨?_, p8 h⟩, ?_⟩
  · simp [sizeT, i7]
  · simp [gA, w8, t8]
theorem qa8 {w : Int} {l : List Int} (h : ∀ x, x ∈ l → wordP w x = true) : fD w (l.map (cT w)) = true := by
  unfold fD
  rw [List.all_eq_true]
  intro t ht
  obtain ⟨x, hx, rfl⟩ := List.mem_map.1 ht
  rw [cT_term (h x hx)]; simp
theorem gO {p : V.Prog} {f : V.Fact} (hp : progP p = true) (hf : progP p = true → factP p.w f = true) : (progP p && factP p.w f) = true := by rw [hp, hf hp]; rfl
theorem fa_w {p : V.Prog} (hp : progP p = true) : inP p.w 1 16 = true := by
  simp [progP, inP] at hp ⊢
  omega
theorem fa_read {p : V.Prog} {f : V.Fact} (h : (progP p && factP p.w f) = true) : x8 p (b8 p f) = (f, true) := yQ ⟨h, rfl⟩
theorem xZ (w mem inn : Int) (code : List V.Ins) (k a c n : Int) (b : List Int) (j : Nat) (hj : j = 4) (h : (progP ⟨w, mem, inn, code⟩ && factP w ⟨k, a, c, n⟩) = true) : CallsF Tryz.prog 11 [.agg [.dat (.i w), .dat (.i mem), .dat (.i inn), .dat (.seq .inss code)], .agg [.dat (.i k), .dat (.i a), .dat (.i c), .dat (.i n)], .dat (.seq .terms ((y6 w b j).map (cT w)))] true
    (fun res B => res = .tup [.agg [.dat (.i 0), .dat (.i 1), .dat (.i (e8 (nC w ⟨k, a, c, n⟩ (y6 w b j)))), .dat (.str ByteArray.empty), .row 0], .dat (.bool true)] ∧ B = [.tree 39 .terms []]) := by
  subst hj
  have h' := h
  rw [Bool.and_eq_true] at h'
  have hw := fa_w h'.1
  have e := qam h'.2 (iD (w := w) (b := b) (k := 4)) (lJ hw 4)
  have q := wZ w mem inn code k a c n ((y6 w b 4).map (cT w)) ⟨h, by rw [List.length_map, iD], qa8 (lJ hw 4), by show (g6 w k a c n _).2 = true; rw [e]⟩
  rw [e] at q; exact q
theorem fa_h {p : V.Prog} {f : V.Fact} {b : List Int} (h : (progP p && factP p.w f) = true) : uF p f (y6 p.w b 4) = nC p.w f (y6 p.w b 4) := by
  have h' := h
  rw [Bool.and_eq_true] at h'
  unfold uF
  rw [h, show ((y6 p.w b 4).all fun x => wordP p.w x) = true from List.all_eq_true.2 (lJ (fa_w h'.1) 4), iD]; rfl
theorem fa_1 {p : V.Prog} {f : V.Fact} {b : List Int} {k : Nat} (hk : k = 4) (h : (progP p && factP p.w f) = true) (ht : uF p f (y6 p.w b k) = true) : Dat.bool true = Dat.bool (decide (e8 (nC p.w f (y6 p.w b k)) = 1)) := by
  subst hk
  rw [fa_h h] at ht
  rw [ht]; rfl
theorem fa_0 {p : V.Prog} {f : V.Fact} {b : List Int} {k : Nat} (hk : k = 4) (h : (progP p && factP p.w f) = true) (ht : uF p f (y6 p.w b k) = false) : Dat.bool true = Dat.bool (decide (e8 (nC p.w f (y6 p.w b k)) = 0)) := by
  subst hk
  rw [fa_h h] at ht
  rw [ht]; rfl
theorem l_all0 (x : List V.Term) (hx : x.length = 0) : CallsV Tryz.prog 33 [.dat (.seq .terms x), .dat (.seq .terms [])] (.dat (.bool true)) := by
  refine oV Tryz.func33 ⟨?_⟩
  repeat' (first | ((with_reducible refine fun (K1 : KT) hK => ?_); refine iA ⟨?_⟩) | ((with_reducible show K1 _ _); subst hK; conv => whnf) | (with_reducible exact rfl) | refine m0 ⟨?_⟩ | ((with_reducible refine SplS.mk (fun h => ?_) (fun h => ?_)) <;> first | exact z1 | (subst h; conv => whnf) | (conv => whnf)) | refine u2 ⟨?_⟩ ⟨?_⟩ | (refine Exists.intro (Unit) (Exists.intro (fun _ => z7 Tryz.f33.ntmps [(0, .dat (.seq .terms x)), (1, .dat (.seq .terms [])), (7, .dat (.seq .terms x)), (8, .dat (.i x.length)), (9, .dat (.i 0))] []) (Exists.intro (fun _ => 0) (Exists.intro () (And.intro (SubP.sub (σ := []) ⟨⟨rfl, rfl, rfl⟩, ⟨r0 ?_, r0 ?_, r0 ?_, r0 ?_, r0 ?_, trivial⟩, trivial⟩) (fun _ => ?_))))); rotate_right; conv => whnf) | (refine Exists.intro () (And.intro ?_ (SubP.sub (σ := []) ⟨⟨rfl, rfl, rfl⟩, ⟨r0 ?_, r0 ?_, r0 ?_, r0 ?_, r0 ?_, trivial⟩, trivial⟩))) | (intro h; conv => whnf))
  all_goals repeat clear hK K1
  all_goals first | exact rfl | omega | exact congrArg Dat.bool (beq_iff_eq.2 (show ((x.length : Nat) : Int) = ((0 : Nat) : Int) by omega)).symm | skip
theorem qaq {p : V.Prog} {f : V.Fact} (h : (progP p && factP p.w f) = true) : (b8 p f).size ≤ 1048576 := by
  have q := fO h
  have h1 := qac q
  have h2 := mD (n := f.n) q.n.1 (by have := q.n; omega)
  have h3 := mD (n := f.b) q.b.1 (by have := q.b; omega)
  have h4 := aF (n := f.b) q.b.1 (by have := q.b; omega)
  have e : sp1.size = 1 := rfl
  rw [iE h]
  unfold gB
  repeat' split
  all_goals (simp only [ByteArray.size_append]; omega)
theorem sZ (w mem inn : Int) (code : List V.Ins) (k a c n : Int) (h : (progP ⟨w, mem, inn, code⟩ && factP w ⟨k, a, c, n⟩) = true) : CallsV Tryz.prog 6 [.agg [.dat (.i w), .dat (.i mem), .dat (.i inn), .dat (.seq .inss code)], .dat (.str (b8 ⟨w, mem, inn, code⟩ ⟨k, a, c, n⟩))]
    (.tup [.agg [.dat (.i k), .dat (.i a), .dat (.i c), .dat (.i n)], .dat (.bool true)]) := by
  have q := tZ w mem inn code (b8 ⟨w, mem, inn, code⟩ ⟨k, a, c, n⟩) (qaq h)
  rw [fa_read h] at q; exact q
theorem l_sameC (x y : Int) : CallsV Tryz.prog 13 [.agg [.dat (.i 0), .dat (.i 1), .dat (.i x), .dat (.str ByteArray.empty), .dat (.seq .terms [])], .agg [.dat (.i 0), .dat (.i 1), .dat (.i y), .dat (.str ByteArray.empty), .dat (.seq .terms [])]] (.dat (.bool (decide (x = y)))) := by
  refine oV Tryz.func13 ⟨?_⟩
  repeat' (first | ((with_reducible refine fun (K1 : KT) hK => ?_); refine iA ⟨?_⟩) | ((with_reducible show K1 _ _); subst hK; conv => whnf) | (with_reducible exact rfl) | refine m0 ⟨?_⟩ | ((with_reducible refine SplS.mk (fun h => ?_) (fun h => ?_)) <;> first | exact z1 | (subst h; conv => whnf) | (conv => whnf)) | ((with_reducible first | refine g0 (g := 33) ?_ | show Exists _); refine ⟨_, l_all0 (hx := ?_) .., rfl, ?_⟩; rotate_right; conv => whnf) | (intro h; conv => whnf))
  all_goals repeat clear hK K1
  all_goals first | exact rfl | exact Bool.noConfusion ((beq_self_eq_true _).symm.trans h) | exact congrArg Dat.bool (decide_eq_false h) | exact congrArg Dat.bool (decide_eq_true rfl) | skip
theorem law_Fa (b : List Int) : CallsV Tryz.prog 3 [.dat (.seq .bytes b)] (.dat (.bool true)) := by
  refine oV Tryz.func3 ⟨?_⟩
  repeat' (first | ((with_reducible refine fun (K1 : KT) hK => ?_); refine iA ⟨?_⟩) | ((with_reducible show K1 _ _); subst hK; conv => whnf) | (with_reducible exact rfl) | refine m0 ⟨?_⟩ | ((with_reducible refine SplS.mk (fun h => ?_) (fun h => ?_)) <;> first | exact z1 | (subst h; conv => whnf) | (conv => whnf)) | refine u2 ⟨?_⟩ ⟨?_⟩ | ((with_reducible show sI _ _ _); exact eq_Fact) | (refine Exists.intro ({k : Nat // k ≤ 4}) (Exists.intro (fun ⟨k, hk⟩ => z7 Tryz.f3.ntmps [(0, .dat (.seq .bytes b)), (3, .ptr 3 0), (5, .ptr 5 0), (8, .row 8), (9, .row 9), (10, .dat (.i k))] [(3, .box [.dat (.i w), .dat (.i mem), .dat (.i inn), .dat (.seq .inss code)]), (5, .box [.dat (.i fk), .dat (.i fa), .dat (.i fb), .dat (.i fn)]), (8, .row 3 .ints (y6 w b k) false), (9, .row 39 .terms ((y6 w b k).map (cT w)) false)]) (Exists.intro (fun ⟨k, hk⟩ => 4 - k) (Exists.intro ⟨0, Nat.zero_le _⟩ (And.intro (SubP.sub (σ := [(3, some 3), (5, some 5), (8, some 41), (9, some 42)]) ⟨⟨rfl, rfl, rfl⟩, ⟨r0 ?_, ⟨rfl, rfl⟩, ⟨rfl, rfl⟩, rfl, rfl, r0 ?_, trivial⟩, ⟨⟨j0 ?_, j0 ?_, j0 ?_, j0 ?_, trivial⟩, ⟨j0 ?_, j0 ?_, j0 ?_, j0 ?_, trivial⟩, ⟨⟨rfl, rfl⟩, ?_⟩, ⟨⟨rfl, rfl⟩, ?_⟩, trivial⟩⟩) (fun ⟨k, hk⟩ => ?_))))); rotate_right; conv => whnf) | (refine Exists.intro (⟨k + 1, ?_⟩ : {k : Nat // k ≤ 4}) (And.intro ?_ (SubP.sub (σ := [(3, some 3), (5, some 5), (8, some 58), (9, some 65)]) ⟨⟨rfl, rfl, rfl⟩, ⟨r0 ?_, ⟨rfl, rfl⟩, ⟨rfl, rfl⟩, rfl, rfl, r0 ?_, trivial⟩, ⟨⟨j0 ?_, j0 ?_, j0 ?_, j0 ?_, trivial⟩, ⟨j0 ?_, j0 ?_, j0 ?_, j0 ?_, trivial⟩, ⟨⟨rfl, rfl⟩, ?_⟩, ⟨⟨rfl, rfl⟩, ?_⟩, trivial⟩⟩))) | ((with_reducible refine vB (g := 4) ?_); refine ⟨_, _, qa6 (hn := ?_) (hl := asmR) .., rfl, fun res B hRB => ?_⟩; rotate_right; obtain ⟨⟨w, mem, inn, hd, code, rfl, hn1⟩, rfl⟩ := hRB; conv => whnf) | ((with_reducible refine vB (g := 5) ?_); refine ⟨_, _, qa7 (hn := ?_) (hl := asmR) .., rfl, fun res B hRB => ?_⟩; rotate_right; obtain ⟨⟨fk, fa, fb, fn, rfl, hf⟩, rfl⟩ := hRB; conv => whnf) | ((with_reducible first | refine g0 (g := 6) ?_ | show Exists _); refine ⟨_, sZ (h := ?_) .., rfl, ?_⟩; rotate_right; conv => whnf) | ((with_reducible first | refine g0 (g := 7) ?_ | show Exists _); refine ⟨_, jT .., rfl, ?_⟩; rotate_right; conv => whnf) | ((with_reducible first | refine g0 (g := 8) ?_ | show Exists _); refine ⟨_, iJ .., rfl, ?_⟩; rotate_right; conv => whnf) | ((with_reducible first | refine g0 (g := 9) ?_ | show Exists _); refine ⟨_, qa4 (hn := ?_) (hl := ?_) .., rfl, ?_⟩; rotate_right; conv => whnf) | ((with_reducible first | refine g0 (g := 10) ?_ | show Exists _); refine ⟨_, sW (h := ?_) .., rfl, ?_⟩; rotate_right; conv => whnf) | ((with_reducible refine vB (g := 11) ?_); refine ⟨_, _, xZ (hj := ?_) (h := ?_) .., rfl, zV ?_⟩; rotate_right; conv => whnf) | ((with_reducible first | refine g0 (g := 12) ?_ | show Exists _); refine ⟨_, yZ .., rfl, ?_⟩; rotate_right; conv => whnf) | ((with_reducible first | refine g0 (g := 13) ?_ | show Exists _); refine ⟨_, l_sameC .., rfl, ?_⟩; rotate_right; conv => whnf) | (intro h; conv => whnf))
  all_goals repeat clear hK K1
  all_goals first | (with_reducible assumption) | decide | exact gO hn1 hf | exact fa_1 (p := ⟨w, mem, inn, code⟩) omG (gO hn1 hf) asmR | exact fa_0 (p := ⟨w, mem, inn, code⟩) omG (gO hn1 hf) asmR | exact absurd rfl asmR | exact Bool.noConfusion (show true = false by with_reducible assumption) | exact absurd (show decide ([fk, fa, fb, fn] = [fk, fa, fb, fn]) = false by with_reducible assumption) (by rw [decide_eq_true rfl]; exact fun e => Bool.noConfusion e) | omega | (have e := rg_ix asmR; rw [e]; omega) | exact wordOf_word _ (fa_w hn1) | exact congrArg (Sigma.mk K.ints) (rg_s asmR) | exact congrArg (Sigma.mk K.terms) (rt_s asmR) | (show ((y6 w b k).length + 1) * 8 ≤ 140737488355328; rw [iD]; omega) | (show (y6 w b k).length + 1 ≤ 9223372036854775807; rw [iD]; omega) | (show (((y6 w b k).map (cT w)).length + 1) * ty39.bytes ≤ 140737488355328; rw [List.length_map, iD]; show (k + 1) * 64 ≤ 140737488355328; omega) | (show ((y6 w b k).map (cT w)).length + 1 ≤ 9223372036854775807; rw [List.length_map, iD]; omega) | ((try dsimp only); omega) | (refine congrArg (Dat.int .i64) ?_; rw [u4 omG omG]; rfl) | exact rfl | skip
end Vg
