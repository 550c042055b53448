/- Paths: contracts of the reference's load and store. Condition: the path is one under way (PI); its lists lie in memory of their own. -/
import Derived.Test.YtfjkpndogncdcaaGreatDoorPathS
import Derived.Test.YtfjkpndogncdcaaGreatDoorPathI
import Derived.Test.YtfjkpndogncdcaaGreatDoorRg
namespace Vg
open Go Go.Proofs
set_option maxRecDepth 100000
set_option maxHeartbeats 40000000
noncomputable def cD (p : V.Prog) (x : V.Term) (k : Int) : V.Term × Bool := u0 14 1 0 [cT p.w k, x]
noncomputable def l7 (p : V.Prog) (mm : List V.Term) (x : V.Term) : Nat -> V.Term × Bool
  | 0 => (kAt mm (p.mem.toNat - 1), true)
  | j + 1 => if (l7 p mm x j).2 = true then (if (cD p x (p.mem - 2 - j)).2 = true then u0 17 p.w 0 [(cD p x (p.mem - 2 - j)).1, mm.getD (p.mem - 2 - j).toNat K.terms.dflt, (l7 p mm x j).1] else ((l7 p mm x j).1, false)) else l7 p mm x j
noncomputable def xE (p : V.Prog) (mm : List V.Term) (x : V.Term) : V.Term × Bool :=
  if x.op = 0 then (mm.getD x.n.toNat K.terms.dflt, true) else l7 p mm x (p.mem.toNat - 1)
section
variable {p : V.Prog} {mm : List V.Term} {x : V.Term} {j : Nat}
theorem lr_a (h : (l7 p mm x j).2 = true) (h2 : (u0 14 1 0 [cT p.w (p.mem - 2 - j), x]).2 = false) : l7 p mm x (j + 1) = ((l7 p mm x j).1, false) := by
  rw [l7, if_pos h, if_neg (by unfold cD; rw [h2]; decide)]
theorem jN (h : (l7 p mm x j).2 = true) (h2 : (u0 14 1 0 [cT p.w (p.mem - 2 - j), x]).2 = false) : (l7 p mm x (j + 1)).1 = (l7 p mm x j).1 := by rw [lr_a h h2]
theorem eL (h : (l7 p mm x j).2 = true) (h2 : (u0 14 1 0 [cT p.w (p.mem - 2 - j), x]).2 = true) : l7 p mm x (j + 1) = u0 17 p.w 0 [(u0 14 1 0 [cT p.w (p.mem - 2 - j), x]).1, mm.getD (p.mem - 2 - j).toNat K.terms.dflt, (l7 p mm x j).1] := by
  rw [l7, if_pos h, if_pos (show (cD p x (p.mem - 2 - j)).2 = true from h2)]; rfl
theorem qcj (h : (l7 p mm x j).2 = false) : ∀ m, j <= m -> l7 p mm x m = l7 p mm x j
  | 0, hm => by obtain rfl : j = 0 := by omega
                rfl
  | m + 1, hm => by
    by_cases e : j = m + 1
    . subst e; rfl
    . rw [l7, qcj h m omG, if_neg (by rw [h]; decide)]
theorem qck (hx : ¬ x.op = 0) (hj : (j : Int) <= p.mem - 1) (h : ¬ p.mem - 2 - j >= 0 \/ (l7 p mm x j).2 = false) : xE p mm x = l7 p mm x j := by
  unfold xE
  rw [if_neg hx]
  by_cases e : j = p.mem.toNat - 1
  . rw [e]
  . exact qcj (h.resolve_left omG) _ omG
theorem lr_ok (hm : okTs mm = true) (hl : (mm.length : Int) = p.mem) (h1 : 1 <= p.mem) : ∀ j, (l7 p mm x j).2 = true -> okT (l7 p mm x j).1 = true
  | 0, _ => sE hm omG
  | j + 1, h => by
    rw [l7] at h ⊢
    by_cases c : (l7 p mm x j).2 = true
    . rw [if_pos c] at h ⊢
      by_cases c2 : (cD p x (p.mem - 2 - j)).2 = true
      . rw [if_pos c2] at h ⊢; exact (dB h).1
      . rw [if_neg c2] at h; cases h
    . rw [if_neg c] at h; exact absurd h c
theorem iN (h : f4 p = true) : (l7 p mm x 0).1 = mm.getD (IntKind.i64.wrap (p.mem - 1)).toNat K.terms.dflt := iL (x := x) h
end
theorem qh2 (w mem inn : Int) (code : List V.Ins) (pc : Int) (rg mm : List V.Term) (sk : List Int) (ic : Int) (ot : List V.Term) (cd sp : Int) (cn : List V.Term) (tr : List Int) (xo xw xn : Int) (xm : ByteArray) (xk : List V.Term) (bd : Bool) (hb : bd = false) (hp : f4 ⟨w, mem, inn, code⟩ = true) (hl : (mm.length : Int) = mem) (hm : okTs mm = true) (hx : LdX ⟨w, mem, inn, code⟩ ⟨xo, xw, xn, xm, xk⟩) (ho : okT ⟨xo, xw, xn, xm, xk⟩ = true) : CallsG Tryz.prog 102 [.ptr 0 0, .agg [.dat (.i w), .dat (.i mem), .dat (.i inn), .dat (.seq .inss code)], .agg [.dat (.i pc), .row 1, .row 2, .row 3, .dat (.i ic), .row 4, .dat (.i cd), .dat (.i sp), .row 5, .row 6], .agg [.dat (.i xo), .dat (.i xw), .dat (.i xn), .dat (.str xm), .dat (.seq .terms xk)]] [.box [.dat (.bool bd)], .row 80 .terms rg false, .row 80 .terms mm false, .row 3 .ints sk false, .row 80 .terms ot false, .row 80 .terms cn false, .row 3 .ints tr false] 7 (fun res B => res = s4 (xE ⟨w, mem, inn, code⟩ mm ⟨xo, xw, xn, xm, xk⟩).1 /\ B = [.box [.dat (.bool (!(xE ⟨w, mem, inn, code⟩ mm ⟨xo, xw, xn, xm, xk⟩).2))], .row 80 .terms rg false, .row 80 .terms mm false, .row 3 .ints sk false, .row 80 .terms ot false, .row 80 .terms cn false, .row 3 .ints tr false]) := by
  refine oG Tryz.func102 ⟨?_⟩
  repeat' (first | ((with_reducible refine fun (K1 : KT) hK => ?_); refine z2 ⟨?_⟩) | ((with_reducible show K1 _ _); subst hK; conv => whnf) | (with_reducible exact rfl) | refine p8 ⟨?_⟩ | ((with_reducible show WEach _ _); refine zA rfl ?_ ?_; conv => whnf) | refine st0 ⟨?_⟩ | ((with_reducible refine SplS.mk (fun h => ?_) (fun h => ?_)) <;> first | exact s5 | ((fail_if_success (have _x : @Eq Bool _ _ := h)); subst h; conv => whnf) | (conv => whnf)) | refine s1 ⟨?_⟩ ⟨?_⟩ | (refine l5 ({j : Nat // (j : Int) <= mem - 1}) (fun ⟨j, hj⟩ => j5 Tryz.f102.ntmps [(0, .ptr 900000 0), (5, .ptr 5 0), (6, .ptr 6 0), (7, .ptr 7 0), (8, .ptr 8 0), (9, .ptr 9 0), (10, .dat (.i (mem - 2 - j)))] [(900000, .box [.dat (.bool (!(l7 ⟨w, mem, inn, code⟩ mm ⟨xo, xw, xn, xm, xk⟩ j).2))]), (900001, .row 80 .terms rg false), (900002, .row 80 .terms mm false), (900003, .row 3 .ints sk false), (900004, .row 80 .terms ot false), (900005, .row 80 .terms cn false), (900006, .row 3 .ints tr false), (5, .box [.dat (.i w), .dat (.i mem), .dat (.i inn), .dat (.seq .inss code)]), (6, .box [.dat (.i pc), .row 900001, .row 900002, .row 900003, .dat (.i ic), .row 900004, .dat (.i cd), .dat (.i sp), .row 900005, .row 900006]), (7, .box [.dat (.i xo), .dat (.i xw), .dat (.i xn), .dat (.str xm), .dat (.seq .terms xk)]), (8, .box [.dat (.i 0), .dat (.i 0), .dat (.i 0), .dat (.str ByteArray.empty), .nils]), (9, .box [.dat (.i (l7 ⟨w, mem, inn, code⟩ mm ⟨xo, xw, xn, xm, xk⟩ j).1.op), .dat (.i (l7 ⟨w, mem, inn, code⟩ mm ⟨xo, xw, xn, xm, xk⟩ j).1.w), .dat (.i (l7 ⟨w, mem, inn, code⟩ mm ⟨xo, xw, xn, xm, xk⟩ j).1.n), .dat (.str (l7 ⟨w, mem, inn, code⟩ mm ⟨xo, xw, xn, xm, xk⟩ j).1.name), .dat (.seq .terms (l7 ⟨w, mem, inn, code⟩ mm ⟨xo, xw, xn, xm, xk⟩ j).1.kids)])]) (fun ⟨j, hj⟩ => mem.toNat - 1 - j) ⟨0, ?_⟩ (SubP.sub (σ := [(900000, some 900000), (900001, some 900001), (900002, some 900002), (900003, some 900003), (900004, some 900004), (900005, some 900005), (900006, some 900006), (5, some 5), (6, some 6), (7, some 7), (8, some 8), (9, some 9)]) ⟨⟨rfl, rfl, rfl⟩, ⟨rr, rr, rr, rr, rr, rr, o0 ?_, trivial⟩, ⟨⟨j0 ?_, trivial⟩, ⟨rr, ?_⟩, ⟨rr, ?_⟩, ⟨rr, ?_⟩, ⟨rr, ?_⟩, ⟨rr, ?_⟩, ⟨rr, ?_⟩, ⟨j0 ?_, j0 ?_, j0 ?_, j0 ?_, trivial⟩, ⟨j0 ?_, rfl, rfl, rfl, j0 ?_, rfl, j0 ?_, j0 ?_, rfl, rfl, trivial⟩, ⟨j0 ?_, j0 ?_, j0 ?_, j0 ?_, j0 ?_, trivial⟩, ⟨j0 ?_, j0 ?_, j0 ?_, j0 ?_, trivial, trivial⟩, ⟨j0 ?_, j0 ?_, j0 ?_, j0 ?_, j0 ?_, trivial⟩, trivial⟩⟩) (fun ⟨j, hj⟩ => ?_); rotate_right; conv => whnf) | (refine p5 (⟨j + 1, ?_⟩ : {j : Nat // (j : Int) <= mem - 1}) ?_ (SubP.sub (σ := [(900000, some 900000), (900001, some 900001), (900002, some 900002), (900003, some 900003), (900004, some 900004), (900005, some 900005), (900006, some 900006), (5, some 5), (6, some 6), (7, some 7), (8, some 8), (9, some 9)]) ⟨⟨rfl, rfl, rfl⟩, ⟨rr, rr, rr, rr, rr, rr, o0 ?_, trivial⟩, ⟨⟨j0 ?_, trivial⟩, ⟨rr, ?_⟩, ⟨rr, ?_⟩, ⟨rr, ?_⟩, ⟨rr, ?_⟩, ⟨rr, ?_⟩, ⟨rr, ?_⟩, ⟨j0 ?_, j0 ?_, j0 ?_, j0 ?_, trivial⟩, ⟨j0 ?_, rfl, rfl, rfl, j0 ?_, rfl, j0 ?_, j0 ?_, rfl, rfl, trivial⟩, ⟨j0 ?_, j0 ?_, j0 ?_, j0 ?_, j0 ?_, trivial⟩, ⟨j0 ?_, j0 ?_, j0 ?_, j0 ?_, trivial, trivial⟩, ⟨j0 ?_, j0 ?_, j0 ?_, j0 ?_, j0 ?_, trivial⟩, trivial⟩⟩)) | refine vP (rF ..) ⟨?_⟩ | refine gS (pM (hb := ?_) (hn := ?_) ..) ⟨?_⟩ | fail)
  all_goals repeat clear hK K1
  all_goals (have hM := s6 hp; dsimp only at hM; try simp only [V.Term.eta, Bool.not_eq_false', Bool.not_eq_true'] at *)
  all_goals first | (rw [hb]; exact rfl) | ((with_reducible show (_ : Nat) < _); first | ((try dsimp only); omega) | (have q := hx.h rfl; dsimp only at q; omega) | (rw [j2 (n := mem - 1) omG omG]; omega)) | ((with_reducible show (_ : Int) <= _); first | omega | (rw [j2 (n := mem - 1) omG omG]; omega) | (have q := hx.h rfl; dsimp only at q; omega)) | ((with_reducible show (_ : Int) < _); first | omega | (rw [j2 (n := mem - 1) omG omG]; omega) | (have q := hx.h rfl; dsimp only at q; omega)) | ((with_reducible show okTs _ = true); first | exact qH (rB (rQ hp omG (by show _ < mem; omega))) ho | exact qbq (dB asmR).1 (fQ hm omG omG) (lr_ok (p := ⟨w, mem, inn, code⟩) hm hl hM.1 j asmR)) | exact congrArg (fun t => Dat.i (V.Term.op t)) (iN hp) | exact congrArg (fun t => Dat.i (V.Term.w t)) (iN hp) | exact congrArg (fun t => Dat.i (V.Term.n t)) (iN hp) | exact congrArg (fun t => Dat.str (V.Term.name t)) (iN hp) | exact congrArg (fun t => Dat.seq K.terms (V.Term.kids t)) (iN hp) | (refine congrArg (Dat.int .i64) ?_; rw [j2 omG omG]; omega) | exact congrArg (fun t => Dat.bool (!(Prod.snd t))) (eL (p := ⟨w, mem, inn, code⟩) asmR asmR) | exact (congrArg (fun t => Dat.bool (!(Prod.snd t))) (lr_a (p := ⟨w, mem, inn, code⟩) asmR asmR)).trans (congrArg (fun b => Dat.bool (!b)) (show _ = false from by with_reducible assumption)).symm | exact congrArg (fun t => Dat.i (V.Term.op (Prod.fst t))) (eL (p := ⟨w, mem, inn, code⟩) asmR asmR) | exact congrArg (fun t => Dat.i (V.Term.w (Prod.fst t))) (eL (p := ⟨w, mem, inn, code⟩) asmR asmR) | exact congrArg (fun t => Dat.i (V.Term.n (Prod.fst t))) (eL (p := ⟨w, mem, inn, code⟩) asmR asmR) | exact congrArg (fun t => Dat.str (V.Term.name (Prod.fst t))) (eL (p := ⟨w, mem, inn, code⟩) asmR asmR) | exact congrArg (fun t => Dat.seq K.terms (V.Term.kids (Prod.fst t))) (eL (p := ⟨w, mem, inn, code⟩) asmR asmR) | exact congrArg (fun t => Dat.i (V.Term.op t)) (jN (p := ⟨w, mem, inn, code⟩) asmR asmR) | exact congrArg (fun t => Dat.i (V.Term.w t)) (jN (p := ⟨w, mem, inn, code⟩) asmR asmR) | exact congrArg (fun t => Dat.i (V.Term.n t)) (jN (p := ⟨w, mem, inn, code⟩) asmR asmR) | exact congrArg (fun t => Dat.str (V.Term.name t)) (jN (p := ⟨w, mem, inn, code⟩) asmR asmR) | exact congrArg (fun t => Dat.seq K.terms (V.Term.kids t)) (jN (p := ⟨w, mem, inn, code⟩) asmR asmR) | (with_reducible assumption) | (rw [qck (p := ⟨w, mem, inn, code⟩) asmR hj (.inl asmR)] <;> exact rfl) | (rw [qck (p := ⟨w, mem, inn, code⟩) asmR hj (.inr asmR)] <;> exact rfl) | exact rfl | skip
noncomputable def w7 (p : V.Prog) (mm : List V.Term) (x t : V.Term) : Nat -> List V.Term × Bool
  | 0 => (mm, true)
  | k + 1 => if (w7 p mm x t k).2 = true then (if (cD p x k).2 = true then ((w7 p mm x t k).1.set (k : Int).toNat (u0 17 p.w 0 [(cD p x k).1, t, mm.getD (k : Int).toNat K.terms.dflt]).1, (u0 17 p.w 0 [(cD p x k).1, t, mm.getD (k : Int).toNat K.terms.dflt]).2) else ((w7 p mm x t k).1, false)) else w7 p mm x t k
noncomputable def nE (p : V.Prog) (mm : List V.Term) (x t : V.Term) : List V.Term × Bool :=
  if x.op = 0 then (mm.set x.n.toNat t, true) else w7 p mm x t p.mem.toNat
section
variable {p : V.Prog} {mm : List V.Term} {x t : V.Term} {k : Nat}
theorem sr_a (h : (w7 p mm x t k).2 = true) (h2 : (u0 14 1 0 [cT p.w k, x]).2 = false) : w7 p mm x t (k + 1) = ((w7 p mm x t k).1, false) := by
  rw [w7, if_pos h, if_neg (by unfold cD; rw [h2]; decide)]
theorem sr_b (h : (w7 p mm x t k).2 = true) (h2 : (u0 14 1 0 [cT p.w k, x]).2 = true) : w7 p mm x t (k + 1) = ((w7 p mm x t k).1.set (k : Int).toNat (u0 17 p.w 0 [(u0 14 1 0 [cT p.w k, x]).1, t, mm.getD (k : Int).toNat K.terms.dflt]).1, (u0 17 p.w 0 [(u0 14 1 0 [cT p.w k, x]).1, t, mm.getD (k : Int).toNat K.terms.dflt]).2) := by
  rw [w7, if_pos h, if_pos (show (cD p x k).2 = true from h2)]; rfl
theorem sr_a1 (h : (w7 p mm x t k).2 = true) (h2 : (u0 14 1 0 [cT p.w k, x]).2 = false) : (w7 p mm x t (k + 1)).1 = (w7 p mm x t k).1 := by rw [sr_a h h2]
theorem sr_b1 (h : (w7 p mm x t k).2 = true) (h2 : (u0 14 1 0 [cT p.w k, x]).2 = true) : (w7 p mm x t (k + 1)).1 = (w7 p mm x t k).1.set (k : Int).toNat (u0 17 p.w 0 [(u0 14 1 0 [cT p.w k, x]).1, t, mm.getD (k : Int).toNat K.terms.dflt]).1 := by rw [sr_b h h2]
theorem qac (h : (w7 p mm x t k).2 = false) : ∀ m, k <= m -> w7 p mm x t m = w7 p mm x t k
  | 0, hm => by obtain rfl : k = 0 := by omega
                rfl
  | m + 1, hm => by
    by_cases e : k = m + 1
    . subst e; rfl
    . rw [w7, qac h m omG, if_neg (by rw [h]; decide)]
theorem qad (hx : ¬ x.op = 0) (hk : (k : Int) <= p.mem) (h : ¬ (k : Int) < p.mem \/ (w7 p mm x t k).2 = false) : nE p mm x t = w7 p mm x t k := by
  unfold nE
  rw [if_neg hx]
  by_cases e : k = p.mem.toNat
  . rw [e]
  . exact qac (h.resolve_left omG) _ omG
theorem mP : ∀ k, (w7 p mm x t k).1.length = mm.length
  | 0 => rfl
  | k + 1 => by
    rw [w7]
    split
    . split
      . rw [List.length_set]; exact mP k
      . exact mP k
    . exact mP k
end
theorem qhz (w mem inn : Int) (code : List V.Ins) (pc : Int) (rg mm : List V.Term) (sk : List Int) (ic : Int) (ot : List V.Term) (cd sp : Int) (cn : List V.Term) (tr : List Int) (xo xw xn : Int) (xm : ByteArray) (xk : List V.Term) (uo uw un : Int) (um : ByteArray) (uk : List V.Term) (bd : Bool) (hb : bd = false) (hp : f4 ⟨w, mem, inn, code⟩ = true) (hl : (mm.length : Int) = mem) (hm : okTs mm = true) (hx : LdX ⟨w, mem, inn, code⟩ ⟨xo, xw, xn, xm, xk⟩) (ho : okT ⟨xo, xw, xn, xm, xk⟩ = true) (hu : okT ⟨uo, uw, un, um, uk⟩ = true) : CallsG Tryz.prog 103 [.ptr 0 0, .agg [.dat (.i w), .dat (.i mem), .dat (.i inn), .dat (.seq .inss code)], .agg [.dat (.i pc), .row 1, .row 2, .row 3, .dat (.i ic), .row 4, .dat (.i cd), .dat (.i sp), .row 5, .row 6], .agg [.dat (.i xo), .dat (.i xw), .dat (.i xn), .dat (.str xm), .dat (.seq .terms xk)], .agg [.dat (.i uo), .dat (.i uw), .dat (.i un), .dat (.str um), .dat (.seq .terms uk)]] [.box [.dat (.bool bd)], .row 80 .terms rg false, .row 80 .terms mm false, .row 3 .ints sk false, .row 80 .terms ot false, .row 80 .terms cn false, .row 3 .ints tr false] 7 (fun res B => res = .row 7 /\ B = [.box [.dat (.bool (!(nE ⟨w, mem, inn, code⟩ mm ⟨xo, xw, xn, xm, xk⟩ ⟨uo, uw, un, um, uk⟩).2))], .row 80 .terms rg false, .row 80 .terms mm false, .row 3 .ints sk false, .row 80 .terms ot false, .row 80 .terms cn false, .row 3 .ints tr false, .row 80 .terms (nE ⟨w, mem, inn, code⟩ mm ⟨xo, xw, xn, xm, xk⟩ ⟨uo, uw, un, um, uk⟩).1 false]) := by
  refine oG Tryz.func103 ⟨?_⟩
  repeat' (first | ((with_reducible refine fun (K1 : KT) hK => ?_); refine z2 ⟨?_⟩) | ((with_reducible show K1 _ _); subst hK; conv => whnf) | (with_reducible exact rfl) | refine p8 ⟨?_⟩ | ((with_reducible show WEach _ _); refine zA rfl ?_ ?_; conv => whnf) | refine st0 ⟨?_⟩ | ((with_reducible refine SplS.mk (fun h => ?_) (fun h => ?_)) <;> first | exact s5 | ((fail_if_success (have _x : @Eq Bool _ _ := h)); subst h; conv => whnf) | (conv => whnf)) | refine s1 ⟨?_⟩ ⟨?_⟩ | (refine l5 ({k : Nat // (k : Int) <= mem}) (fun ⟨k, hk⟩ => j5 Tryz.f103.ntmps [(0, .ptr 900000 0), (6, .ptr 6 0), (7, .ptr 7 0), (8, .ptr 8 0), (9, .ptr 9 0), (11, .row 17), (12, .dat (.i k))] [(900000, .box [.dat (.bool (!(w7 ⟨w, mem, inn, code⟩ mm ⟨xo, xw, xn, xm, xk⟩ ⟨uo, uw, un, um, uk⟩ k).2))]), (900001, .row 80 .terms rg false), (900002, .row 80 .terms mm false), (900003, .row 3 .ints sk false), (900004, .row 80 .terms ot false), (900005, .row 80 .terms cn false), (900006, .row 3 .ints tr false), (6, .box [.dat (.i w), .dat (.i mem), .dat (.i inn), .dat (.seq .inss code)]), (7, .box [.dat (.i pc), .row 900001, .row 900002, .row 900003, .dat (.i ic), .row 900004, .dat (.i cd), .dat (.i sp), .row 900005, .row 900006]), (8, .box [.dat (.i xo), .dat (.i xw), .dat (.i xn), .dat (.str xm), .dat (.seq .terms xk)]), (9, .box [.dat (.i uo), .dat (.i uw), .dat (.i un), .dat (.str um), .dat (.seq .terms uk)]), (17, .row 80 .terms (w7 ⟨w, mem, inn, code⟩ mm ⟨xo, xw, xn, xm, xk⟩ ⟨uo, uw, un, um, uk⟩ k).1 false)]) (fun ⟨k, hk⟩ => mem.toNat - k) ⟨0, ?_⟩ (SubP.sub (σ := [(900000, some 900000), (900001, some 900001), (900002, some 900002), (900003, some 900003), (900004, some 900004), (900005, some 900005), (900006, some 900006), (6, some 6), (7, some 7), (8, some 8), (9, some 9), (17, some 17)]) ⟨⟨rfl, rfl, rfl⟩, ⟨rr, rr, rr, rr, rr, rfl, o0 ?_, trivial⟩, ⟨⟨j0 ?_, trivial⟩, ⟨rr, ?_⟩, ⟨rr, ?_⟩, ⟨rr, ?_⟩, ⟨rr, ?_⟩, ⟨rr, ?_⟩, ⟨rr, ?_⟩, ⟨j0 ?_, j0 ?_, j0 ?_, j0 ?_, trivial⟩, ⟨j0 ?_, rfl, rfl, rfl, j0 ?_, rfl, j0 ?_, j0 ?_, rfl, rfl, trivial⟩, ⟨j0 ?_, j0 ?_, j0 ?_, j0 ?_, j0 ?_, trivial⟩, ⟨j0 ?_, j0 ?_, j0 ?_, j0 ?_, j0 ?_, trivial⟩, ⟨rr, ?_⟩, trivial⟩⟩) (fun ⟨k, hk⟩ => ?_); rotate_right; conv => whnf) | (refine p5 (⟨k + 1, ?_⟩ : {k : Nat // (k : Int) <= mem}) ?_ (SubP.sub (σ := [(900000, some 900000), (900001, some 900001), (900002, some 900002), (900003, some 900003), (900004, some 900004), (900005, some 900005), (900006, some 900006), (6, some 6), (7, some 7), (8, some 8), (9, some 9), (17, some 17)]) ⟨⟨rfl, rfl, rfl⟩, ⟨rr, rr, rr, rr, rr, rfl, o0 ?_, trivial⟩, ⟨⟨j0 ?_, trivial⟩, ⟨rr, ?_⟩, ⟨rr, ?_⟩, ⟨rr, ?_⟩, ⟨rr, ?_⟩, ⟨rr, ?_⟩, ⟨rr, ?_⟩, ⟨j0 ?_, j0 ?_, j0 ?_, j0 ?_, trivial⟩, ⟨j0 ?_, rfl, rfl, rfl, j0 ?_, rfl, j0 ?_, j0 ?_, rfl, rfl, trivial⟩, ⟨j0 ?_, j0 ?_, j0 ?_, j0 ?_, j0 ?_, trivial⟩, ⟨j0 ?_, j0 ?_, j0 ?_, j0 ?_, j0 ?_, trivial⟩, ⟨rr, ?_⟩, trivial⟩⟩)) | refine vP (rF ..) ⟨?_⟩ | refine gS (pM (hb := ?_) (hn := ?_) ..) ⟨?_⟩ | fail)
  all_goals repeat clear hK K1
  all_goals (have hM := s6 hp; dsimp only at hM; have sl := fun y u => mP (p := ⟨w, mem, inn, code⟩) (mm := mm) (x := y) (t := u); try simp only [V.Term.eta, Bool.not_eq_false', Bool.not_eq_true'] at *)
  all_goals first | (rw [hb]; exact rfl) | ((with_reducible show (_ : Nat) < _); first | ((try dsimp only); omega) | (have q := hx.h rfl; dsimp only at q; omega) | (simp only [sl]; omega) | (have q := hx.h rfl; dsimp only at q; simp; omega)) | ((with_reducible show (_ : Int) <= _); first | omega | (have q := hx.h rfl; dsimp only at q; omega)) | ((with_reducible show (_ : Int) < _); first | omega | (have q := hx.h rfl; dsimp only at q; omega) | (simp only [sl]; omega) | (have q := hx.h rfl; dsimp only at q; simp; omega)) | ((with_reducible show (_ : Nat) <= _); first | omega | (simp; omega) | (have hm : maxLen = 9223372036854775807 := rfl; simp; omega) | (show (_ + _) * 64 <= _; simp; omega)) | ((with_reducible show okTs _ = true); first | exact qH (rB (rQ hp omG (by show _ < mem; omega))) ho | exact qbq (dB asmR).1 hu (fQ hm omG omG)) | (refine congrArg (Dat.int .i64) ?_; rw [j2 omG omG]; omega) | exact congrArg (fun t => Dat.bool (!(Prod.snd t))) (sr_b (p := ⟨w, mem, inn, code⟩) asmR asmR) | exact (congrArg (fun t => Dat.bool (!(Prod.snd t))) (sr_a (p := ⟨w, mem, inn, code⟩) asmR asmR)).trans (congrArg (fun b => Dat.bool (!b)) (show _ = false from by with_reducible assumption)).symm | exact congrArg (Sigma.mk K.terms) (sr_b1 (p := ⟨w, mem, inn, code⟩) asmR asmR) | exact congrArg (Sigma.mk K.terms) (sr_a1 (p := ⟨w, mem, inn, code⟩) asmR asmR) | (with_reducible assumption) | (rw [qad (p := ⟨w, mem, inn, code⟩) asmR hk (.inl asmR)] <;> exact rfl) | (rw [qad (p := ⟨w, mem, inn, code⟩) asmR hk (.inr asmR)] <;> exact rfl) | exact rfl | skip
noncomputable def i5 (p : V.Prog) (s : V.Path) (i : V.Ins) : V.Path × Bool :=
  if i.op = 14 then ({ s with code := 1 }, true)
  else if u4 p s i ≠ 0 then ({ s with code := u4 p s i }, true)
  else if i.op = 7 then ({ s with regs := s.regs.set i.a.toNat (xE p s.mem (rgT s i.b)).1, pc := s.pc + 1 }, (xE p s.mem (rgT s i.b)).2)
  else if i.op = 8 then ({ s with mem := (nE p s.mem (rgT s i.a) (rgT s i.b)).1, pc := s.pc + 1 }, (nE p s.mem (rgT s i.a) (rgT s i.b)).2)
  else d6 p s i
section
variable {p : V.Prog} {s : V.Path} {a b c : Int} {i : V.Ins}
theorem no_14 : i5 p s ⟨14, a, b, c⟩ = ({ s with code := 1 }, true) := if_pos rfl
theorem wK {k : Int} (h14 : ¬ i.op = 14) (h : u4 p s i = k) (hk : ¬ k = 0) : i5 p s i = ({ s with code := k }, true) := by
  unfold i5
  rw [if_neg h14, h, if_pos hk]
theorem no_5 (h : p.inn <= s.inn) : i5 p s ⟨5, a, b, c⟩ = ({ s with code := 3 }, true) := wK (show ¬ (5 : Int) = 14 by decide) (if_pos ⟨rfl, h⟩) (by decide)
theorem no_6 (h : 6 <= (s.out.length : Int)) : i5 p s ⟨6, a, b, c⟩ = ({ s with code := 4 }, true) := wK (show ¬ (6 : Int) = 14 by decide) (by unfold u4; rw [if_neg (fun q => absurd (show (6 : Int) = 5 from q.1) (by decide)), if_pos ⟨rfl, h⟩]) (by decide)
theorem no_11 (h : 3 <= (s.stack.length : Int)) : i5 p s ⟨11, a, b, c⟩ = ({ s with code := 7 }, true) := wK (show ¬ (11 : Int) = 14 by decide) (by unfold u4; rw [if_neg (fun q => absurd (show (11 : Int) = 5 from q.1) (by decide)), if_neg (fun q => absurd (show (11 : Int) = 6 from q.1) (by decide)), if_pos ⟨rfl, h⟩]) (by decide)
theorem no_12 (h : (s.stack.length : Int) = 0) : i5 p s ⟨12, a, b, c⟩ = ({ s with code := 7 }, true) := wK (show ¬ (12 : Int) = 14 by decide) (by unfold u4; rw [if_neg (fun q => absurd (show (12 : Int) = 5 from q.1) (by decide)), if_neg (fun q => absurd (show (12 : Int) = 6 from q.1) (by decide)), if_neg (fun q => absurd (show (12 : Int) = 11 from q.1) (by decide)), if_pos ⟨rfl, h⟩]) (by decide)
theorem no_7 : i5 p s ⟨7, a, b, c⟩ = ({ s with regs := s.regs.set a.toNat (xE p s.mem (rgT s b)).1, pc := s.pc + 1 }, (xE p s.mem (rgT s b)).2) := by
  have e : u4 p s ⟨7, a, b, c⟩ = 0 := by
    unfold u4
    rw [if_neg (fun q => absurd (show (7 : Int) = 5 from q.1) (by decide)), if_neg (fun q => absurd (show (7 : Int) = 6 from q.1) (by decide)), if_neg (fun q => absurd (show (7 : Int) = 11 from q.1) (by decide)), if_neg (fun q => absurd (show (7 : Int) = 12 from q.1) (by decide))]
  unfold i5
  rw [if_neg (show ¬ (7 : Int) = 14 by decide), if_neg (by rw [e]; decide), if_pos rfl]
theorem no_8 : i5 p s ⟨8, a, b, c⟩ = ({ s with mem := (nE p s.mem (rgT s a) (rgT s b)).1, pc := s.pc + 1 }, (nE p s.mem (rgT s a) (rgT s b)).2) := by
  have e : u4 p s ⟨8, a, b, c⟩ = 0 := by
    unfold u4
    rw [if_neg (fun q => absurd (show (8 : Int) = 5 from q.1) (by decide)), if_neg (fun q => absurd (show (8 : Int) = 6 from q.1) (by decide)), if_neg (fun q => absurd (show (8 : Int) = 11 from q.1) (by decide)), if_neg (fun q => absurd (show (8 : Int) = 12 from q.1) (by decide))]
  unfold i5
  rw [if_neg (show ¬ (8 : Int) = 14 by decide), if_neg (by rw [e]; decide), if_neg (show ¬ (8 : Int) = 7 by decide), if_pos rfl]
theorem st_0 (h5 : i.op = 5 -> s.inn < p.inn) (h6 : i.op = 6 -> (s.out.length : Int) < 6) (h11 : i.op = 11 -> (s.stack.length : Int) < 3) (h12 : i.op = 12 -> ¬ (s.stack.length : Int) = 0) : u4 p s i = 0 := by
  unfold u4
  rw [if_neg (fun q => by have := h5 q.1; omega), if_neg (fun q => by have := h6 q.1; omega), if_neg (fun q => by have := h11 q.1; omega), if_neg (fun q => h12 q.1 q.2)]
theorem xK (h14 : ¬ i.op = 14) (hk : u4 p s i = 0) (h7 : ¬ i.op = 7) (h8 : ¬ i.op = 8) : i5 p s i = d6 p s i := by
  unfold i5
  rw [if_neg h14, if_neg (by rw [hk]; decide), if_neg h7, if_neg h8]
end
theorem qh5 (pc : Int) (rg mm : List V.Term) (sk : List Int) (ic : Int) (ot : List V.Term) (cd sp : Int) (cn : List V.Term) (tr : List Int) (xo xw xn : Int) (xm : ByteArray) (xk : List V.Term) (n : Int) (h : CpOk ⟨pc, rg, mm, sk, ic, ot, cd, sp, cn, tr⟩) : CallsF Tryz.prog 65 [.agg [.dat (.i pc), .dat (.seq .terms rg), .dat (.seq .terms mm), .dat (.seq .ints sk), .dat (.i ic), .dat (.seq .terms ot), .dat (.i cd), .dat (.i sp), .dat (.seq .terms cn), .dat (.seq .ints tr)], .agg [.dat (.i xo), .dat (.i xw), .dat (.i xn), .dat (.str xm), .dat (.seq .terms xk)], .dat (.i n)] false (fun res B => res = .agg [.dat (.i pc), .row 0, .row 1, .row 2, .dat (.i ic), .row 3, .dat (.i cd), .dat (.i sp), .row 4, .row 5] /\ B = [.row 80 .terms rg false, .row 80 .terms mm false, .row 3 .ints sk false, .row 80 .terms ot false, .row 80 .terms (cn ++ [⟨xo, xw, xn, xm, xk⟩]) false, .row 3 .ints (tr ++ [n]) false]) := by
  refine oF Tryz.func65 ⟨?_⟩
  repeat' (first | ((with_reducible refine fun (K1 : KT) hK => ?_); refine z2 ⟨?_⟩) | ((with_reducible show K1 _ _); subst hK; conv => whnf) | refine st0 ⟨?_⟩ | refine s1 ⟨?_⟩ ⟨?_⟩ | refine eS (sP (h := ?_) ..) ⟨?_⟩ | fail)
  all_goals repeat clear hK K1
  all_goals first | exact h | exact rfl | (have q := h.cl; have q2 := h.tl; dsimp only at q q2; have hm : maxLen = 9223372036854775807 := rfl; first | omega | (simp; omega) | (show (_ + _) * 8 <= _; simp; omega) | (show (_ + _) * 64 <= _; simp; omega)) | skip
theorem qiw (op w : Int) (ho : 3 <= op /\ op <= 16) (hw : inP w 1 16 = true) : CallsV Tryz.prog 100 [.dat (.i op), .dat (.i w)] (.dat (.i (a8 op w))) := by
  refine oV Tryz.func100 ⟨?_⟩
  repeat' (first | ((with_reducible refine fun (K1 : KT) hK => ?_); refine z2 ⟨?_⟩) | ((with_reducible show K1 _ _); subst hK; conv => whnf) | refine st0 ⟨?_⟩ | ((with_reducible refine SplS.mk (fun h => ?_) (fun h => ?_)) <;> first | exact s5 | (subst h; conv => whnf) | (conv => whnf)) | refine vP (tA ..) ⟨?_⟩ | fail)
  all_goals repeat clear hK K1
  all_goals first | (refine iG (Eq.symm ?_); unfold a8; (first | rw [if_pos omG] | rw [if_neg omG]); done) | (exact Bool.noConfusion (Eq.trans (Eq.symm (b6.2 omG)) (show inP op 1 16 = false by with_reducible assumption))) | skip
theorem qao (M : Int -> Int -> Int -> List V.Term -> V.Term × Bool) (b : Bool) (op w : Int) (ks : List V.Term) (hM : M = u0) (hb : b = false) (hn : okTs ks = true) : CallsG Tryz.prog 53 [.ptr 0 0, .dat (.i op), .dat (.i w), .row 1] [.box [.dat (.bool b)], .row 80 .terms ks false] 1 (fun res B => res = s4 (M op w 0 ks).1 /\ B = [.box [.dat (.bool (!(M op w 0 ks).2))]]) := by
  subst hM
  exact pM b op w ks hb hn
end Vg
