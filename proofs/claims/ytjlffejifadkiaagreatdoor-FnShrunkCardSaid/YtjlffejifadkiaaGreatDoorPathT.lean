/- Paths: contracts of the reference's load and store. Condition: the path is one under way (PI); its lists lie in memory of their own. -/
import Derived.Test.YtjlffejifadkiaaGreatDoorPathS
import Derived.Test.YtjlffejifadkiaaGreatDoorPathI
namespace Vg
open Go Go.Proofs
set_option maxRecDepth 100000
set_option maxHeartbeats 40000000
noncomputable def dC (p : V.Prog) (x : V.Term) (k : Int) : V.Term × Bool := s1 14 1 0 [cT p.w k, x]
noncomputable def j6 (p : V.Prog) (mm : List V.Term) (x : V.Term) : Nat → V.Term × Bool
  | 0 => (kAt mm (p.mem.toNat - 1), true)
  | j + 1 => if (j6 p mm x j).2 = true then (if (dC p x (p.mem - 2 - j)).2 = true then s1 17 p.w 0 [(dC p x (p.mem - 2 - j)).1, mm.getD (p.mem - 2 - j).toNat K.terms.dflt, (j6 p mm x j).1] else ((j6 p mm x j).1, false)) else j6 p mm x j
noncomputable def fD (p : V.Prog) (mm : List V.Term) (x : V.Term) : V.Term × Bool :=
  if x.op = 0 then (mm.getD x.n.toNat K.terms.dflt, true) else j6 p mm x (p.mem.toNat - 1)
section
variable {p : V.Prog} {mm : List V.Term} {x : V.Term} {j : Nat}
theorem lr_a (h : (j6 p mm x j).2 = true) (h2 : (s1 14 1 0 [cT p.w (p.mem - 2 - j), x]).2 = false) : j6 p mm x (j + 1) = ((j6 p mm x j).1, false) := by
  rw [j6, if_pos h, if_neg (by unfold dC; rw [h2]; decide)]
theorem iK (h : (j6 p mm x j).2 = true) (h2 : (s1 14 1 0 [cT p.w (p.mem - 2 - j), x]).2 = false) : (j6 p mm x (j + 1)).1 = (j6 p mm x j).1 := by rw [lr_a h h2]
theorem rI (h : (j6 p mm x j).2 = true) (h2 : (s1 14 1 0 [cT p.w (p.mem - 2 - j), x]).2 = true) : j6 p mm x (j + 1) = s1 17 p.w 0 [(s1 14 1 0 [cT p.w (p.mem - 2 - j), x]).1, mm.getD (p.mem - 2 - j).toNat K.terms.dflt, (j6 p mm x j).1] := by
  rw [j6, if_pos h, if_pos (show (dC p x (p.mem - 2 - j)).2 = true from h2)]; rfl
theorem fZ (h : (j6 p mm x j).2 = false) : ∀ m, j ≤ m → j6 p mm x m = j6 p mm x j
  | 0, hm => by obtain rfl : j = 0 := by omega
                rfl
  | m + 1, hm => by
    by_cases e : j = m + 1
    · subst e; rfl
    · rw [j6, fZ h m omG, if_neg (by rw [h]; decide)]
theorem gZ (hx : ¬ x.op = 0) (hj : (j : Int) ≤ p.mem - 1) (h : ¬ p.mem - 2 - j ≥ 0 ∨ (j6 p mm x j).2 = false) : fD p mm x = j6 p mm x j := by
  unfold fD
  rw [if_neg hx]
  by_cases e : j = p.mem.toNat - 1
  · rw [e]
  · exact fZ (h.resolve_left omG) _ omG
theorem lr_ok (hm : okTs mm = true) (hl : (mm.length : Int) = p.mem) (h1 : 1 ≤ p.mem) : ∀ j, (j6 p mm x j).2 = true → okT (j6 p mm x j).1 = true
  | 0, _ => sD hm omG
  | j + 1, h => by
    rw [j6] at h ⊢
    by_cases c : (j6 p mm x j).2 = true
    · rw [if_pos c] at h ⊢
      by_cases c2 : (dC p x (p.mem - 2 - j)).2 = true
      · rw [if_pos c2] at h ⊢; exact (qA h).1
      · rw [if_neg c2] at h; cases h
    · rw [if_neg c] at h; exact absurd h c
theorem gK (h : y4 p = true) : (j6 p mm x 0).1 = mm.getD (IntKind.i64.wrap (p.mem - 1)).toNat K.terms.dflt := uI (x := x) h
end
theorem qer (w mem inn : Int) (code : List V.Ins) (pc : Int) (rg mm : List V.Term) (sk : List Int) (ic : Int) (ot : List V.Term) (cd sp : Int) (cn : List V.Term) (tr : List Int) (xo xw xn : Int) (xm : ByteArray) (xk : List V.Term) (bd : Bool) (hb : bd = false) (hp : y4 ⟨w, mem, inn, code⟩ = true) (hl : (mm.length : Int) = mem) (hm : okTs mm = true) (hx : LdX ⟨w, mem, inn, code⟩ ⟨xo, xw, xn, xm, xk⟩) (ho : okT ⟨xo, xw, xn, xm, xk⟩ = true) : CallsG Tryz.prog 116 [.ptr 0 0, .agg [.dat (.i w), .dat (.i mem), .dat (.i inn), .dat (.seq .inss code)], .agg [.dat (.i pc), .row 1, .row 2, .row 3, .dat (.i ic), .row 4, .dat (.i cd), .dat (.i sp), .row 5, .row 6], .agg [.dat (.i xo), .dat (.i xw), .dat (.i xn), .dat (.str xm), .dat (.seq .terms xk)]] [.box [.dat (.bool bd)], .row 108 .terms rg false, .row 108 .terms mm false, .row 3 .ints sk false, .row 108 .terms ot false, .row 108 .terms cn false, .row 3 .ints tr false] 7 (fun res B => res = b4 (fD ⟨w, mem, inn, code⟩ mm ⟨xo, xw, xn, xm, xk⟩).1 ∧ B = [.box [.dat (.bool (!(fD ⟨w, mem, inn, code⟩ mm ⟨xo, xw, xn, xm, xk⟩).2))], .row 108 .terms rg false, .row 108 .terms mm false, .row 3 .ints sk false, .row 108 .terms ot false, .row 108 .terms cn false, .row 3 .ints tr false]) := by
  refine oG Tryz.func116 ⟨?_⟩
  repeat' (first | ((with_reducible refine fun (K1 : KT) hK => ?_); refine z1 ⟨?_⟩) | ((with_reducible show K1 _ _); subst hK; conv => whnf) | (with_reducible exact rfl) | refine r5 ⟨?_⟩ | ((with_reducible show WEach _ _); refine x6 rfl ?_ ?_; conv => whnf) | refine st0 ⟨?_⟩ | ((with_reducible refine SplS.mk (fun h => ?_) (fun h => ?_)) <;> first | exact r0 | ((fail_if_success (have _x : @Eq Bool _ _ := h)); subst h; conv => whnf) | (conv => whnf)) | refine f1 ⟨?_⟩ ⟨?_⟩ | (refine Exists.intro ({j : Nat // (j : Int) ≤ mem - 1}) (Exists.intro (fun ⟨j, hj⟩ => r4 Tryz.f116.ntmps [(0, .ptr 900000 0), (5, .ptr 5 0), (6, .ptr 6 0), (7, .ptr 7 0), (8, .ptr 8 0), (9, .ptr 9 0), (10, .dat (.i (mem - 2 - j)))] [(900000, .box [.dat (.bool (!(j6 ⟨w, mem, inn, code⟩ mm ⟨xo, xw, xn, xm, xk⟩ j).2))]), (900001, .row 108 .terms rg false), (900002, .row 108 .terms mm false), (900003, .row 3 .ints sk false), (900004, .row 108 .terms ot false), (900005, .row 108 .terms cn false), (900006, .row 3 .ints tr false), (5, .box [.dat (.i w), .dat (.i mem), .dat (.i inn), .dat (.seq .inss code)]), (6, .box [.dat (.i pc), .row 900001, .row 900002, .row 900003, .dat (.i ic), .row 900004, .dat (.i cd), .dat (.i sp), .row 900005, .row 900006]), (7, .box [.dat (.i xo), .dat (.i xw), .dat (.i xn), .dat (.str xm), .dat (.seq .terms xk)]), (8, .box [.dat (.i 0), .dat (.i 0), .dat (.i 0), .dat (.str ByteArray.empty), .nils]), (9, .box [.dat (.i (j6 ⟨w, mem, inn, code⟩ mm ⟨xo, xw, xn, xm, xk⟩ j).1.op), .dat (.i (j6 ⟨w, mem, inn, code⟩ mm ⟨xo, xw, xn, xm, xk⟩ j).1.w), .dat (.i (j6 ⟨w, mem, inn, code⟩ mm ⟨xo, xw, xn, xm, xk⟩ j).1.n), .dat (.str (j6 ⟨w, mem, inn, code⟩ mm ⟨xo, xw, xn, xm, xk⟩ j).1.name), .dat (.seq .terms (j6 ⟨w, mem, inn, code⟩ mm ⟨xo, xw, xn, xm, xk⟩ j).1.kids)])]) (Exists.intro (fun ⟨j, hj⟩ => mem.toNat - 1 - j) (Exists.intro ⟨0, ?_⟩ (And.intro (SubP.sub (σ := [(900000, some 900000), (900001, some 900001), (900002, some 900002), (900003, some 900003), (900004, some 900004), (900005, some 900005), (900006, some 900006), (5, some 5), (6, some 6), (7, some 7), (8, some 8), (9, some 9)]) ⟨⟨rfl, rfl, rfl⟩, ⟨⟨rfl, rfl⟩, ⟨rfl, rfl⟩, ⟨rfl, rfl⟩, ⟨rfl, rfl⟩, ⟨rfl, rfl⟩, ⟨rfl, rfl⟩, o0 ?_, trivial⟩, ⟨⟨j0 ?_, trivial⟩, ⟨⟨rfl, rfl⟩, ?_⟩, ⟨⟨rfl, rfl⟩, ?_⟩, ⟨⟨rfl, rfl⟩, ?_⟩, ⟨⟨rfl, rfl⟩, ?_⟩, ⟨⟨rfl, rfl⟩, ?_⟩, ⟨⟨rfl, rfl⟩, ?_⟩, ⟨j0 ?_, j0 ?_, j0 ?_, j0 ?_, trivial⟩, ⟨j0 ?_, rfl, rfl, rfl, j0 ?_, rfl, j0 ?_, j0 ?_, rfl, rfl, trivial⟩, ⟨j0 ?_, j0 ?_, j0 ?_, j0 ?_, j0 ?_, trivial⟩, ⟨j0 ?_, j0 ?_, j0 ?_, j0 ?_, trivial, trivial⟩, ⟨j0 ?_, j0 ?_, j0 ?_, j0 ?_, j0 ?_, trivial⟩, trivial⟩⟩) (fun ⟨j, hj⟩ => ?_))))); rotate_right; conv => whnf) | (refine Exists.intro (⟨j + 1, ?_⟩ : {j : Nat // (j : Int) ≤ mem - 1}) (And.intro ?_ (SubP.sub (σ := [(900000, some 900000), (900001, some 900001), (900002, some 900002), (900003, some 900003), (900004, some 900004), (900005, some 900005), (900006, some 900006), (5, some 5), (6, some 6), (7, some 7), (8, some 8), (9, some 9)]) ⟨⟨rfl, rfl, rfl⟩, ⟨⟨rfl, rfl⟩, ⟨rfl, rfl⟩, ⟨rfl, rfl⟩, ⟨rfl, rfl⟩, ⟨rfl, rfl⟩, ⟨rfl, rfl⟩, o0 ?_, trivial⟩, ⟨⟨j0 ?_, trivial⟩, ⟨⟨rfl, rfl⟩, ?_⟩, ⟨⟨rfl, rfl⟩, ?_⟩, ⟨⟨rfl, rfl⟩, ?_⟩, ⟨⟨rfl, rfl⟩, ?_⟩, ⟨⟨rfl, rfl⟩, ?_⟩, ⟨⟨rfl, rfl⟩, ?_⟩, ⟨j0 ?_, j0 ?_, j0 ?_, j0 ?_, trivial⟩, ⟨j0 ?_, rfl, rfl, rfl, j0 ?_, rfl, j0 ?_, j0 ?_, rfl, rfl, trivial⟩, ⟨j0 ?_, j0 ?_, j0 ?_, j0 ?_, j0 ?_, trivial⟩, ⟨j0 ?_, j0 ?_, j0 ?_, j0 ?_, trivial, trivial⟩, ⟨j0 ?_, j0 ?_, j0 ?_, j0 ?_, j0 ?_, trivial⟩, trivial⟩⟩))) | ((with_reducible first | refine n0 (g := 71) ?_ | show Exists _); refine ⟨_, s_l02Const .., rfl, ?_⟩; rotate_right; conv => whnf) | ((with_reducible refine a6 (g := 77) ?_); refine ⟨_, _, xJ (hb := ?_) (hn := ?_) .., zV ?_⟩; rotate_right; conv => whnf) | (intro h; conv => whnf))
  all_goals repeat clear hK K1
  all_goals (have hM := g6 hp; dsimp only at hM; try simp only [V.Term.eta, Bool.not_eq_false', Bool.not_eq_true'] at *)
  all_goals first | exact True.intro | (rw [hb]; exact rfl) | ((with_reducible show wordP _ _ = true); exact nI hp omG (by show _ < mem; omega)) | ((with_reducible show (_ : Nat) < _); first | ((try dsimp only); omega) | (have q := hx.h rfl; dsimp only at q; omega) | (rw [wrap_id (n := mem - 1) omG omG]; omega)) | ((with_reducible show (_ : Int) ≤ _); first | omega | (rw [wrap_id (n := mem - 1) omG omG]; omega) | (have q := hx.h rfl; dsimp only at q; omega)) | ((with_reducible show (_ : Int) < _); first | omega | (rw [wrap_id (n := mem - 1) omG omG]; omega) | (have q := hx.h rfl; dsimp only at q; omega)) | ((with_reducible show okTs _ = true); first | exact mF (pA (nI hp omG (by show _ < mem; omega))) ho | exact hY (qA asmR).1 (uM hm omG omG) (lr_ok (p := ⟨w, mem, inn, code⟩) hm hl hM.1 j asmR)) | exact congrArg (fun t => Dat.i (V.Term.op t)) (gK hp) | exact congrArg (fun t => Dat.i (V.Term.w t)) (gK hp) | exact congrArg (fun t => Dat.i (V.Term.n t)) (gK hp) | exact congrArg (fun t => Dat.str (V.Term.name t)) (gK hp) | exact congrArg (fun t => Dat.seq K.terms (V.Term.kids t)) (gK hp) | (refine congrArg (Dat.int .i64) ?_; rw [wrap_id omG omG]; omega) | (refine congrArg Dat.i ?_; rw [wrap_id omG omG]; omega) | exact congrArg (fun t => Dat.bool (!(Prod.snd t))) (rI (p := ⟨w, mem, inn, code⟩) asmR asmR) | exact (congrArg (fun t => Dat.bool (!(Prod.snd t))) (lr_a (p := ⟨w, mem, inn, code⟩) asmR asmR)).trans (congrArg (fun b => Dat.bool (!b)) (show _ = false from by with_reducible assumption)).symm | exact congrArg (fun t => Dat.i (V.Term.op (Prod.fst t))) (rI (p := ⟨w, mem, inn, code⟩) asmR asmR) | exact congrArg (fun t => Dat.i (V.Term.w (Prod.fst t))) (rI (p := ⟨w, mem, inn, code⟩) asmR asmR) | exact congrArg (fun t => Dat.i (V.Term.n (Prod.fst t))) (rI (p := ⟨w, mem, inn, code⟩) asmR asmR) | exact congrArg (fun t => Dat.str (V.Term.name (Prod.fst t))) (rI (p := ⟨w, mem, inn, code⟩) asmR asmR) | exact congrArg (fun t => Dat.seq K.terms (V.Term.kids (Prod.fst t))) (rI (p := ⟨w, mem, inn, code⟩) asmR asmR) | exact congrArg (fun t => Dat.i (V.Term.op t)) (iK (p := ⟨w, mem, inn, code⟩) asmR asmR) | exact congrArg (fun t => Dat.i (V.Term.w t)) (iK (p := ⟨w, mem, inn, code⟩) asmR asmR) | exact congrArg (fun t => Dat.i (V.Term.n t)) (iK (p := ⟨w, mem, inn, code⟩) asmR asmR) | exact congrArg (fun t => Dat.str (V.Term.name t)) (iK (p := ⟨w, mem, inn, code⟩) asmR asmR) | exact congrArg (fun t => Dat.seq K.terms (V.Term.kids t)) (iK (p := ⟨w, mem, inn, code⟩) asmR asmR) | exact congrArg Bool.not (show _ = true from by with_reducible assumption) | (with_reducible assumption) | (rw [gZ (p := ⟨w, mem, inn, code⟩) asmR hj (.inl asmR)] <;> exact rfl) | (rw [gZ (p := ⟨w, mem, inn, code⟩) asmR hj (.inr asmR)] <;> exact rfl) | exact rfl | skip
noncomputable def q6 (p : V.Prog) (mm : List V.Term) (x t : V.Term) : Nat → List V.Term × Bool
  | 0 => (mm, true)
  | k + 1 => if (q6 p mm x t k).2 = true then (if (dC p x k).2 = true then ((q6 p mm x t k).1.set (k : Int).toNat (s1 17 p.w 0 [(dC p x k).1, t, mm.getD (k : Int).toNat K.terms.dflt]).1, (s1 17 p.w 0 [(dC p x k).1, t, mm.getD (k : Int).toNat K.terms.dflt]).2) else ((q6 p mm x t k).1, false)) else q6 p mm x t k
noncomputable def bD (p : V.Prog) (mm : List V.Term) (x t : V.Term) : List V.Term × Bool :=
  if x.op = 0 then (mm.set x.n.toNat t, true) else q6 p mm x t p.mem.toNat
section
variable {p : V.Prog} {mm : List V.Term} {x t : V.Term} {k : Nat}
theorem sr_a (h : (q6 p mm x t k).2 = true) (h2 : (s1 14 1 0 [cT p.w k, x]).2 = false) : q6 p mm x t (k + 1) = ((q6 p mm x t k).1, false) := by
  rw [q6, if_pos h, if_neg (by unfold dC; rw [h2]; decide)]
theorem sr_b (h : (q6 p mm x t k).2 = true) (h2 : (s1 14 1 0 [cT p.w k, x]).2 = true) : q6 p mm x t (k + 1) = ((q6 p mm x t k).1.set (k : Int).toNat (s1 17 p.w 0 [(s1 14 1 0 [cT p.w k, x]).1, t, mm.getD (k : Int).toNat K.terms.dflt]).1, (s1 17 p.w 0 [(s1 14 1 0 [cT p.w k, x]).1, t, mm.getD (k : Int).toNat K.terms.dflt]).2) := by
  rw [q6, if_pos h, if_pos (show (dC p x k).2 = true from h2)]; rfl
theorem sr_a1 (h : (q6 p mm x t k).2 = true) (h2 : (s1 14 1 0 [cT p.w k, x]).2 = false) : (q6 p mm x t (k + 1)).1 = (q6 p mm x t k).1 := by rw [sr_a h h2]
theorem sr_b1 (h : (q6 p mm x t k).2 = true) (h2 : (s1 14 1 0 [cT p.w k, x]).2 = true) : (q6 p mm x t (k + 1)).1 = (q6 p mm x t k).1.set (k : Int).toNat (s1 17 p.w 0 [(s1 14 1 0 [cT p.w k, x]).1, t, mm.getD (k : Int).toNat K.terms.dflt]).1 := by rw [sr_b h h2]
theorem fW (h : (q6 p mm x t k).2 = false) : ∀ m, k ≤ m → q6 p mm x t m = q6 p mm x t k
  | 0, hm => by obtain rfl : k = 0 := by omega
                rfl
  | m + 1, hm => by
    by_cases e : k = m + 1
    · subst e; rfl
    · rw [q6, fW h m omG, if_neg (by rw [h]; decide)]
theorem gW (hx : ¬ x.op = 0) (hk : (k : Int) ≤ p.mem) (h : ¬ (k : Int) < p.mem ∨ (q6 p mm x t k).2 = false) : bD p mm x t = q6 p mm x t k := by
  unfold bD
  rw [if_neg hx]
  by_cases e : k = p.mem.toNat
  · rw [e]
  · exact fW (h.resolve_left omG) _ omG
theorem dM : ∀ k, (q6 p mm x t k).1.length = mm.length
  | 0 => rfl
  | k + 1 => by
    rw [q6]
    split
    · split
      · rw [List.length_set]; exact dM k
      · exact dM k
    · exact dM k
end
theorem qen (w mem inn : Int) (code : List V.Ins) (pc : Int) (rg mm : List V.Term) (sk : List Int) (ic : Int) (ot : List V.Term) (cd sp : Int) (cn : List V.Term) (tr : List Int) (xo xw xn : Int) (xm : ByteArray) (xk : List V.Term) (uo uw un : Int) (um : ByteArray) (uk : List V.Term) (bd : Bool) (hb : bd = false) (hp : y4 ⟨w, mem, inn, code⟩ = true) (hl : (mm.length : Int) = mem) (hm : okTs mm = true) (hx : LdX ⟨w, mem, inn, code⟩ ⟨xo, xw, xn, xm, xk⟩) (ho : okT ⟨xo, xw, xn, xm, xk⟩ = true) (hu : okT ⟨uo, uw, un, um, uk⟩ = true) : CallsG Tryz.prog 117 [.ptr 0 0, .agg [.dat (.i w), .dat (.i mem), .dat (.i inn), .dat (.seq .inss code)], .agg [.dat (.i pc), .row 1, .row 2, .row 3, .dat (.i ic), .row 4, .dat (.i cd), .dat (.i sp), .row 5, .row 6], .agg [.dat (.i xo), .dat (.i xw), .dat (.i xn), .dat (.str xm), .dat (.seq .terms xk)], .agg [.dat (.i uo), .dat (.i uw), .dat (.i un), .dat (.str um), .dat (.seq .terms uk)]] [.box [.dat (.bool bd)], .row 108 .terms rg false, .row 108 .terms mm false, .row 3 .ints sk false, .row 108 .terms ot false, .row 108 .terms cn false, .row 3 .ints tr false] 7 (fun res B => res = .row 7 ∧ B = [.box [.dat (.bool (!(bD ⟨w, mem, inn, code⟩ mm ⟨xo, xw, xn, xm, xk⟩ ⟨uo, uw, un, um, uk⟩).2))], .row 108 .terms rg false, .row 108 .terms mm false, .row 3 .ints sk false, .row 108 .terms ot false, .row 108 .terms cn false, .row 3 .ints tr false, .row 108 .terms (bD ⟨w, mem, inn, code⟩ mm ⟨xo, xw, xn, xm, xk⟩ ⟨uo, uw, un, um, uk⟩).1 false]) := by
  refine oG Tryz.func117 ⟨?_⟩
  repeat' (first | ((with_reducible refine fun (K1 : KT) hK => ?_); refine z1 ⟨?_⟩) | ((with_reducible show K1 _ _); subst hK; conv => whnf) | (with_reducible exact rfl) | refine r5 ⟨?_⟩ | ((with_reducible show WEach _ _); refine x6 rfl ?_ ?_; conv => whnf) | refine st0 ⟨?_⟩ | ((with_reducible refine SplS.mk (fun h => ?_) (fun h => ?_)) <;> first | exact r0 | ((fail_if_success (have _x : @Eq Bool _ _ := h)); subst h; conv => whnf) | (conv => whnf)) | refine f1 ⟨?_⟩ ⟨?_⟩ | (refine Exists.intro ({k : Nat // (k : Int) ≤ mem}) (Exists.intro (fun ⟨k, hk⟩ => r4 Tryz.f117.ntmps [(0, .ptr 900000 0), (6, .ptr 6 0), (7, .ptr 7 0), (8, .ptr 8 0), (9, .ptr 9 0), (11, .row 17), (12, .dat (.i k))] [(900000, .box [.dat (.bool (!(q6 ⟨w, mem, inn, code⟩ mm ⟨xo, xw, xn, xm, xk⟩ ⟨uo, uw, un, um, uk⟩ k).2))]), (900001, .row 108 .terms rg false), (900002, .row 108 .terms mm false), (900003, .row 3 .ints sk false), (900004, .row 108 .terms ot false), (900005, .row 108 .terms cn false), (900006, .row 3 .ints tr false), (6, .box [.dat (.i w), .dat (.i mem), .dat (.i inn), .dat (.seq .inss code)]), (7, .box [.dat (.i pc), .row 900001, .row 900002, .row 900003, .dat (.i ic), .row 900004, .dat (.i cd), .dat (.i sp), .row 900005, .row 900006]), (8, .box [.dat (.i xo), .dat (.i xw), .dat (.i xn), .dat (.str xm), .dat (.seq .terms xk)]), (9, .box [.dat (.i uo), .dat (.i uw), .dat (.i un), .dat (.str um), .dat (.seq .terms uk)]), (17, .row 108 .terms (q6 ⟨w, mem, inn, code⟩ mm ⟨xo, xw, xn, xm, xk⟩ ⟨uo, uw, un, um, uk⟩ k).1 false)]) (Exists.intro (fun ⟨k, hk⟩ => mem.toNat - k) (Exists.intro ⟨0, ?_⟩ (And.intro (SubP.sub (σ := [(900000, some 900000), (900001, some 900001), (900002, some 900002), (900003, some 900003), (900004, some 900004), (900005, some 900005), (900006, some 900006), (6, some 6), (7, some 7), (8, some 8), (9, some 9), (17, some 17)]) ⟨⟨rfl, rfl, rfl⟩, ⟨⟨rfl, rfl⟩, ⟨rfl, rfl⟩, ⟨rfl, rfl⟩, ⟨rfl, rfl⟩, ⟨rfl, rfl⟩, rfl, o0 ?_, trivial⟩, ⟨⟨j0 ?_, trivial⟩, ⟨⟨rfl, rfl⟩, ?_⟩, ⟨⟨rfl, rfl⟩, ?_⟩, ⟨⟨rfl, rfl⟩, ?_⟩, ⟨⟨rfl, rfl⟩, ?_⟩, ⟨⟨rfl, rfl⟩, ?_⟩, ⟨⟨rfl, rfl⟩, ?_⟩, ⟨j0 ?_, j0 ?_, j0 ?_, j0 ?_, trivial⟩, ⟨j0 ?_, rfl, rfl, rfl, j0 ?_, rfl, j0 ?_, j0 ?_, rfl, rfl, trivial⟩, ⟨j0 ?_, j0 ?_, j0 ?_, j0 ?_, j0 ?_, trivial⟩, ⟨j0 ?_, j0 ?_, j0 ?_, j0 ?_, j0 ?_, trivial⟩, ⟨⟨rfl, rfl⟩, ?_⟩, trivial⟩⟩) (fun ⟨k, hk⟩ => ?_))))); rotate_right; conv => whnf) | (refine Exists.intro (⟨k + 1, ?_⟩ : {k : Nat // (k : Int) ≤ mem}) (And.intro ?_ (SubP.sub (σ := [(900000, some 900000), (900001, some 900001), (900002, some 900002), (900003, some 900003), (900004, some 900004), (900005, some 900005), (900006, some 900006), (6, some 6), (7, some 7), (8, some 8), (9, some 9), (17, some 17)]) ⟨⟨rfl, rfl, rfl⟩, ⟨⟨rfl, rfl⟩, ⟨rfl, rfl⟩, ⟨rfl, rfl⟩, ⟨rfl, rfl⟩, ⟨rfl, rfl⟩, rfl, o0 ?_, trivial⟩, ⟨⟨j0 ?_, trivial⟩, ⟨⟨rfl, rfl⟩, ?_⟩, ⟨⟨rfl, rfl⟩, ?_⟩, ⟨⟨rfl, rfl⟩, ?_⟩, ⟨⟨rfl, rfl⟩, ?_⟩, ⟨⟨rfl, rfl⟩, ?_⟩, ⟨⟨rfl, rfl⟩, ?_⟩, ⟨j0 ?_, j0 ?_, j0 ?_, j0 ?_, trivial⟩, ⟨j0 ?_, rfl, rfl, rfl, j0 ?_, rfl, j0 ?_, j0 ?_, rfl, rfl, trivial⟩, ⟨j0 ?_, j0 ?_, j0 ?_, j0 ?_, j0 ?_, trivial⟩, ⟨j0 ?_, j0 ?_, j0 ?_, j0 ?_, j0 ?_, trivial⟩, ⟨⟨rfl, rfl⟩, ?_⟩, trivial⟩⟩))) | ((with_reducible first | refine n0 (g := 71) ?_ | show Exists _); refine ⟨_, s_l02Const .., rfl, ?_⟩; rotate_right; conv => whnf) | ((with_reducible refine a6 (g := 77) ?_); refine ⟨_, _, xJ (hb := ?_) (hn := ?_) .., zV ?_⟩; rotate_right; conv => whnf) | (intro h; conv => whnf))
  all_goals repeat clear hK K1
  all_goals (have hM := g6 hp; dsimp only at hM; have sl := fun y u => dM (p := ⟨w, mem, inn, code⟩) (mm := mm) (x := y) (t := u); try simp only [V.Term.eta, Bool.not_eq_false', Bool.not_eq_true'] at *)
  all_goals first | exact True.intro | (rw [hb]; exact rfl) | ((with_reducible show wordP _ _ = true); exact nI hp omG (by show _ < mem; omega)) | ((with_reducible show (_ : Nat) < _); first | ((try dsimp only); omega) | (have q := hx.h rfl; dsimp only at q; omega) | (simp only [sl]; omega) | (have q := hx.h rfl; dsimp only at q; simp; omega)) | ((with_reducible show (_ : Int) ≤ _); first | omega | (have q := hx.h rfl; dsimp only at q; omega)) | ((with_reducible show (_ : Int) < _); first | omega | (have q := hx.h rfl; dsimp only at q; omega) | (simp only [sl]; omega) | (have q := hx.h rfl; dsimp only at q; simp; omega)) | ((with_reducible show (_ : Nat) ≤ _); first | omega | (simp; omega) | (have hm : maxLen = 9223372036854775807 := rfl; simp; omega) | (show (_ + _) * 64 ≤ _; simp; omega)) | ((with_reducible show okTs _ = true); first | exact mF (pA (nI hp omG (by show _ < mem; omega))) ho | exact hY (qA asmR).1 hu (uM hm omG omG)) | (refine congrArg (Dat.int .i64) ?_; rw [wrap_id omG omG]; omega) | (refine congrArg Dat.i ?_; rw [wrap_id omG omG]; omega) | exact congrArg (fun t => Dat.bool (!(Prod.snd t))) (sr_b (p := ⟨w, mem, inn, code⟩) asmR asmR) | exact (congrArg (fun t => Dat.bool (!(Prod.snd t))) (sr_a (p := ⟨w, mem, inn, code⟩) asmR asmR)).trans (congrArg (fun b => Dat.bool (!b)) (show _ = false from by with_reducible assumption)).symm | exact congrArg (Sigma.mk K.terms) (sr_b1 (p := ⟨w, mem, inn, code⟩) asmR asmR) | exact congrArg (Sigma.mk K.terms) (sr_a1 (p := ⟨w, mem, inn, code⟩) asmR asmR) | exact congrArg Bool.not (show _ = true from by with_reducible assumption) | (with_reducible assumption) | (rw [gW (p := ⟨w, mem, inn, code⟩) asmR hk (.inl asmR)] <;> exact rfl) | (rw [gW (p := ⟨w, mem, inn, code⟩) asmR hk (.inr asmR)] <;> exact rfl) | exact rfl | skip
noncomputable def s4 (p : V.Prog) (s : V.Path) (i : V.Ins) : V.Path × Bool :=
  if i.op = 14 then ({ s with code := 1 }, true)
  else if t4 p s i ≠ 0 then ({ s with code := t4 p s i }, true)
  else if i.op = 7 then ({ s with regs := s.regs.set i.a.toNat (fD p s.mem (rgT s i.b)).1, pc := s.pc + 1 }, (fD p s.mem (rgT s i.b)).2)
  else if i.op = 8 then ({ s with mem := (bD p s.mem (rgT s i.a) (rgT s i.b)).1, pc := s.pc + 1 }, (bD p s.mem (rgT s i.a) (rgT s i.b)).2)
  else p5 p s i
section
variable {p : V.Prog} {s : V.Path} {a b c : Int} {i : V.Ins}
theorem no_14 : s4 p s ⟨14, a, b, c⟩ = ({ s with code := 1 }, true) := if_pos rfl
theorem jI {k : Int} (h14 : ¬ i.op = 14) (h : t4 p s i = k) (hk : ¬ k = 0) : s4 p s i = ({ s with code := k }, true) := by
  unfold s4
  rw [if_neg h14, h, if_pos hk]
theorem no_5 (h : p.inn ≤ s.inn) : s4 p s ⟨5, a, b, c⟩ = ({ s with code := 3 }, true) := jI (show ¬ (5 : Int) = 14 by decide) (if_pos ⟨rfl, h⟩) (by decide)
theorem no_6 (h : 6 ≤ (s.out.length : Int)) : s4 p s ⟨6, a, b, c⟩ = ({ s with code := 4 }, true) := jI (show ¬ (6 : Int) = 14 by decide) (by unfold t4; rw [if_neg (fun q => absurd (show (6 : Int) = 5 from q.1) (by decide)), if_pos ⟨rfl, h⟩]) (by decide)
theorem no_11 (h : 3 ≤ (s.stack.length : Int)) : s4 p s ⟨11, a, b, c⟩ = ({ s with code := 7 }, true) := jI (show ¬ (11 : Int) = 14 by decide) (by unfold t4; rw [if_neg (fun q => absurd (show (11 : Int) = 5 from q.1) (by decide)), if_neg (fun q => absurd (show (11 : Int) = 6 from q.1) (by decide)), if_pos ⟨rfl, h⟩]) (by decide)
theorem no_12 (h : (s.stack.length : Int) = 0) : s4 p s ⟨12, a, b, c⟩ = ({ s with code := 7 }, true) := jI (show ¬ (12 : Int) = 14 by decide) (by unfold t4; rw [if_neg (fun q => absurd (show (12 : Int) = 5 from q.1) (by decide)), if_neg (fun q => absurd (show (12 : Int) = 6 from q.1) (by decide)), if_neg (fun q => absurd (show (12 : Int) = 11 from q.1) (by decide)), if_pos ⟨rfl, h⟩]) (by decide)
theorem no_7 : s4 p s ⟨7, a, b, c⟩ = ({ s with regs := s.regs.set a.toNat (fD p s.mem (rgT s b)).1, pc := s.pc + 1 }, (fD p s.mem (rgT s b)).2) := by
  have e : t4 p s ⟨7, a, b, c⟩ = 0 := by
    unfold t4
    rw [if_neg (fun q => absurd (show (7 : Int) = 5 from q.1) (by decide)), if_neg (fun q => absurd (show (7 : Int) = 6 from q.1) (by decide)), if_neg (fun q => absurd (show (7 : Int) = 11 from q.1) (by decide)), if_neg (fun q => absurd (show (7 : Int) = 12 from q.1) (by decide))]
  unfold s4
  rw [if_neg (show ¬ (7 : Int) = 14 by decide), if_neg (by rw [e]; decide), if_pos rfl]
theorem no_8 : s4 p s ⟨8, a, b, c⟩ = ({ s with mem := (bD p s.mem (rgT s a) (rgT s b)).1, pc := s.pc + 1 }, (bD p s.mem (rgT s a) (rgT s b)).2) := by
  have e : t4 p s ⟨8, a, b, c⟩ = 0 := by
    unfold t4
    rw [if_neg (fun q => absurd (show (8 : Int) = 5 from q.1) (by decide)), if_neg (fun q => absurd (show (8 : Int) = 6 from q.1) (by decide)), if_neg (fun q => absurd (show (8 : Int) = 11 from q.1) (by decide)), if_neg (fun q => absurd (show (8 : Int) = 12 from q.1) (by decide))]
  unfold s4
  rw [if_neg (show ¬ (8 : Int) = 14 by decide), if_neg (by rw [e]; decide), if_neg (show ¬ (8 : Int) = 7 by decide), if_pos rfl]
theorem st_0 (h5 : i.op = 5 → s.inn < p.inn) (h6 : i.op = 6 → (s.out.length : Int) < 6) (h11 : i.op = 11 → (s.stack.length : Int) < 3) (h12 : i.op = 12 → ¬ (s.stack.length : Int) = 0) : t4 p s i = 0 := by
  unfold t4
  rw [if_neg (fun q => by have := h5 q.1; omega), if_neg (fun q => by have := h6 q.1; omega), if_neg (fun q => by have := h11 q.1; omega), if_neg (fun q => h12 q.1 q.2)]
theorem kI (h14 : ¬ i.op = 14) (hk : t4 p s i = 0) (h7 : ¬ i.op = 7) (h8 : ¬ i.op = 8) : s4 p s i = p5 p s i := by
  unfold s4
  rw [if_neg h14, if_neg (by rw [hk]; decide), if_neg h7, if_neg h8]
end
theorem qes (pc : Int) (rg mm : List V.Term) (sk : List Int) (ic : Int) (ot : List V.Term) (cd sp : Int) (cn : List V.Term) (tr : List Int) (xo xw xn : Int) (xm : ByteArray) (xk : List V.Term) (n : Int) (h : CpOk ⟨pc, rg, mm, sk, ic, ot, cd, sp, cn, tr⟩) : CallsF Tryz.prog 78 [.agg [.dat (.i pc), .dat (.seq .terms rg), .dat (.seq .terms mm), .dat (.seq .ints sk), .dat (.i ic), .dat (.seq .terms ot), .dat (.i cd), .dat (.i sp), .dat (.seq .terms cn), .dat (.seq .ints tr)], .agg [.dat (.i xo), .dat (.i xw), .dat (.i xn), .dat (.str xm), .dat (.seq .terms xk)], .dat (.i n)] false (fun res B => res = .agg [.dat (.i pc), .row 0, .row 1, .row 2, .dat (.i ic), .row 3, .dat (.i cd), .dat (.i sp), .row 4, .row 5] ∧ B = [.row 108 .terms rg false, .row 108 .terms mm false, .row 3 .ints sk false, .row 108 .terms ot false, .row 108 .terms (cn ++ [⟨xo, xw, xn, xm, xk⟩]) false, .row 3 .ints (tr ++ [n]) false]) := by
  refine oF Tryz.func78 ⟨?_⟩
  repeat' (first | ((with_reducible refine fun (K1 : KT) hK => ?_); refine z1 ⟨?_⟩) | ((with_reducible show K1 _ _); subst hK; conv => whnf) | (with_reducible exact rfl) | refine st0 ⟨?_⟩ | ((with_reducible refine SplS.mk (fun h => ?_) (fun h => ?_)) <;> first | exact r0 | ((fail_if_success (have _x : @Eq Bool _ _ := h)); subst h; conv => whnf) | (conv => whnf)) | refine f1 ⟨?_⟩ ⟨?_⟩ | ((with_reducible refine o8 (g := 72) ?_); refine ⟨_, _, mM (h := ?_) .., rfl, zV ?_⟩; rotate_right; conv => whnf) | (intro h; conv => whnf))
  all_goals repeat clear hK K1
  all_goals first | exact h | (with_reducible exact rfl) | exact rfl | (have q := h.cl; have q2 := h.tl; dsimp only at q q2; have hm : maxLen = 9223372036854775807 := rfl; first | omega | (simp; omega) | (show (_ + _) * 8 ≤ _; simp; omega) | (show (_ + _) * 64 ≤ _; simp; omega)) | skip
def qc6 (gs : List Nat) : List Oper → Bool
  | [] => false
  | o :: l => (match o.op with
    | .call { callee := .value (.func g), args := _, argTypes := _ } => gs.any (Nat.beq g)
    | _ => false) || qc6 gs l
theorem qdq {P : Program} {τ : Tys} {ops : Array Oper} {S : AState} {K : AState → Prop} {A : Prop} (gs : List Nat) (_ : qc6 gs (ops.toList.take (preLen ops.toList)) = true)
    (h : match aF ops.toList 0 && tD ops.toList with
      | true => jJ ops.toList 0 [] [] fun L => lG τ ops L L [] fun E => cE (d6 E) fun R => WRun P τ ops R true 0 0 E S fun S => WR P τ ops E R E.length 0 S K
      | false => False) : Alt A (nG P τ ops S K) := by
  refine .r ?_
  unfold nG
  simp only [zO, uU] at h
  exact h
theorem qfc (op w : Int) (ho : 3 ≤ op ∧ op ≤ 16) (hw : inP w 1 16 = true) : CallsV Tryz.prog 114 [.dat (.i op), .dat (.i w)] (.dat (.i (j8 op w))) := by
  refine oV Tryz.func114 ⟨?_⟩
  repeat' (first | ((with_reducible refine fun (K1 : KT) hK => ?_); refine z1 ⟨?_⟩) | ((with_reducible show K1 _ _); subst hK; conv => whnf) | (with_reducible exact rfl) | refine st0 ⟨?_⟩ | ((with_reducible refine SplS.mk (fun h => ?_) (fun h => ?_)) <;> first | exact r0 | (subst h; conv => whnf) | (conv => whnf)) | ((with_reducible first | refine n0 (g := 38) ?_ | show Exists _); refine ⟨_, s_l01In .., rfl, ?_⟩; rotate_right; conv => whnf) | (intro h; conv => whnf))
  all_goals repeat clear hK K1
  all_goals first | (refine eE (Eq.symm ?_); unfold j8; (first | rw [if_pos omG] | rw [if_neg omG]); done) | (exact Bool.noConfusion (Eq.trans (Eq.symm (inP_iff.2 omG)) (show inP op 1 16 = false by with_reducible assumption))) | (exfalso; omega) | (exact absurd (hw.symm.trans asmR) (by decide)) | skip
theorem uW (M : Int → Int → Int → List V.Term → V.Term × Bool) (b : Bool) (op w : Int) (ks : List V.Term) (hM : M = s1) (hb : b = false) (hn : okTs ks = true) : CallsG Tryz.prog 77 [.ptr 0 0, .dat (.i op), .dat (.i w), .row 1] [.box [.dat (.bool b)], .row 108 .terms ks false] 1 (fun res B => res = b4 (M op w 0 ks).1 ∧ B = [.box [.dat (.bool (!(M op w 0 ks).2))]]) := by
  subst hM
  exact xJ b op w ks hb hn
end Vg
