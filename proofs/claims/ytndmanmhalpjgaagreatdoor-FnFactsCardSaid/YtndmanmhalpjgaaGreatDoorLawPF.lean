/- Facts are read: contracts of ParseFact, and of the law FnExactParseFact. Condition: texts and lists are no longer than the law lets through. -/
import Derived.Test.YtndmanmhalpjgaaGreatDoorParP
namespace Vg
open Go Go.Proofs
set_option maxRecDepth 100000
set_option maxHeartbeats 40000000
theorem wk_y {l : List ByteArray} {k : Nat} (h : ((i8 ((k + 1 : Nat) : Int)).toList == (l.getD (Int.toNat 1) K.strs.dflt).toList) = true) : s6 (sAt l 1) (k + 1) = ((k + 1 : Nat) : Int) := if_pos (str_eq h)
theorem wk_n {l : List ByteArray} {k : Nat} (h : ((i8 ((k + 1 : Nat) : Int)).toList == (l.getD (Int.toNat 1) K.strs.dflt).toList) = false) : s6 (sAt l 1) (k + 1) = s6 (sAt l 1) k := if_neg (str_ne h)
section
variable {l : List ByteArray} {k : Nat}
theorem k6 (hk : k ≤ 6) (hx : ¬ ((k + 1 : Nat) : Int) ≤ 6) : k = 6 := by omega
theorem raw_1 (hk : k ≤ 6) (hx : ¬ ((k + 1 : Nat) : Int) ≤ 6) (h : s6 (sAt l 1) k = 1 ∨ s6 (sAt l 1) k = 3) (h4 : (l.length : Int) = 4) : o8 l = ⟨s6 (sAt l 1) k, y7 (sAt l 0), 0, y7 (l.getD (Int.toNat 3) K.strs.dflt)⟩ := by
  obtain rfl := k6 hk hx
  unfold o8; rw [if_pos h, if_pos omG]; rfl
theorem raw_2 (hk : k ≤ 6) (hx : ¬ ((k + 1 : Nat) : Int) ≤ 6) (h : s6 (sAt l 1) k = 1 ∨ s6 (sAt l 1) k = 3) (h4 : ¬ (l.length : Int) = 4) : o8 l = ⟨s6 (sAt l 1) k, y7 (sAt l 0), 0, y7 (l.getD (Int.toNat 2) K.strs.dflt)⟩ := by
  obtain rfl := k6 hk hx
  unfold o8; rw [if_pos h, if_neg omG, if_pos h]; rfl
theorem raw_3 (hk : k ≤ 6) (hx : ¬ ((k + 1 : Nat) : Int) ≤ 6) (h1 : ¬ s6 (sAt l 1) k = 1) (h3 : ¬ s6 (sAt l 1) k = 3) (h4 : (l.length : Int) = 4) : o8 l = ⟨s6 (sAt l 1) k, y7 (sAt l 0), y7 (l.getD (Int.toNat 2) K.strs.dflt), y7 (l.getD (Int.toNat 3) K.strs.dflt)⟩ := by
  obtain rfl := k6 hk hx
  unfold o8; rw [if_neg omG, if_pos omG]; rfl
theorem raw_4 (hk : k ≤ 6) (hx : ¬ ((k + 1 : Nat) : Int) ≤ 6) (h1 : ¬ s6 (sAt l 1) k = 1) (h3 : ¬ s6 (sAt l 1) k = 3) (h4 : ¬ (l.length : Int) = 4) : o8 l = ⟨s6 (sAt l 1) k, y7 (sAt l 0), y7 (l.getD (Int.toNat 2) K.strs.dflt), 0⟩ := by
  obtain rfl := k6 hk hx
  unfold o8; rw [if_neg omG, if_neg omG, if_neg omG]; rfl
end
theorem fmt_ok {p : V.Prog} {f : V.Fact} {s : ByteArray} {l : List ByteArray} (hs : s7 32 s = l) (hl : ¬ (l.length : Int) < 3) (h : b8 p f = s) : (progP p && factP p.w f) = true := by
  cases e : (progP p && factP p.w f) with
  | true => rfl
  | false =>
    unfold b8 at h
    rw [e] at h
    subst h
    subst hs
    exfalso
    apply hl
    show ((s7 32 ⟨#[]⟩).length : Int) < 3
    decide
theorem rf_y {p : V.Prog} {f : V.Fact} {s : ByteArray} (hl : ¬ ((s7 32 s).length : Int) < 3) (h : ((b8 p f).toList == s.toList) = true) : x8 p s = (f, true) := yQ ⟨fmt_ok rfl hl (str_eq h), str_eq h⟩
theorem zE {p : V.Prog} {f : V.Fact} {s : ByteArray} (hr : o8 (s7 32 s) = f) (h : ((b8 p f).toList == s.toList) = false) : x8 p s = (⟨0, 0, 0, 0⟩, false) := oM fun g hg => by
  obtain ⟨l, e, _, r⟩ := pG hg
  rw [e, r.rI] at hr
  subst hr
  exact str_ne h hg.eq
theorem rf_3 {p : V.Prog} {s : ByteArray} (hl : ((s7 32 s).length : Int) < 3) : x8 p s = (⟨0, 0, 0, 0⟩, false) := oM fun g hg => by
  obtain ⟨l, e, _, r⟩ := pG hg
  rw [e] at hl
  have := r.n3
  omega
theorem rf_4 {p : V.Prog} {s : ByteArray} (hl : ((s7 32 s).length : Int) > 4) : x8 p s = (⟨0, 0, 0, 0⟩, false) := oM fun g hg => by
  obtain ⟨l, e, _, r⟩ := pG hg
  rw [e] at hl
  have := r.n4
  omega
theorem at_len {l : List ByteArray} {s : ByteArray} {j : Int} (e : s7 32 s = l) (hs : s.size ≤ 1048576) (h : j.toNat < l.length) : (l.getD j.toNat K.strs.dflt).size ≤ 1048576 := by
  subst e
  exact Nat.le_trans (splB_at h) hs
theorem tZ (w mem inn : Int) (code : List V.Ins) (s : ByteArray) (hs : s.size ≤ 1048576) : CallsV Tryz.prog 6 [.agg [.dat (.i w), .dat (.i mem), .dat (.i inn), .dat (.seq .inss code)], .dat (.str s)] (.tup [.agg [.dat (.i (x8 ⟨w, mem, inn, code⟩ s).1.kind), .dat (.i (x8 ⟨w, mem, inn, code⟩ s).1.a), .dat (.i (x8 ⟨w, mem, inn, code⟩ s).1.b), .dat (.i (x8 ⟨w, mem, inn, code⟩ s).1.n)], .dat (.bool (x8 ⟨w, mem, inn, code⟩ s).2)]) := by
  refine oV Tryz.func6 ⟨?_⟩
  repeat' (first | ((with_reducible refine fun (K1 : KT) hK => ?_); refine j4 ⟨?_⟩) | ((with_reducible show K1 _ _); subst hK; conv => whnf) | (with_reducible exact rfl) | refine m0 ⟨?_⟩ | ((with_reducible refine SplS.mk (fun h => ?_) (fun h => ?_)) <;> first | exact z1 | (subst h; conv => whnf) | (conv => whnf)) | refine u2 ⟨?_⟩ ⟨?_⟩ | (refine Exists.intro ({k : Nat // k ≤ 6}) (Exists.intro (fun ⟨k, hk⟩ => z7 Tryz.f6.ntmps [(1, .dat (.str s)), (2, .ptr 2 0), (4, .ptr 4 0), (6, .row 106), (7, .ptr 7 0), (8, .dat (.i ((k + 1 : Nat) : Int)))] [(2, .box [.dat (.i w), .dat (.i mem), .dat (.i inn), .dat (.seq .inss code)]), (4, .box [.cell, .cell, .cell, .cell]), (7, .box [.dat (.i (s6 (sAt (s7 32 s) 1) k)), .dat (.i (y7 (sAt (s7 32 s) 0))), .dat (.i 0), .dat (.i 0)]), (106, .row 9 .strs (s7 32 s) false)]) (Exists.intro (fun ⟨k, hk⟩ => 6 - k) (Exists.intro ⟨0, Nat.zero_le _⟩ (And.intro (SubP.sub (σ := [(2, some 2), (4, some 4), (7, some 7), (106, some 11000)]) ⟨⟨rfl, rfl, rfl⟩, ⟨r0 ?_, ⟨rfl, rfl⟩, ⟨rfl, rfl⟩, rfl, ⟨rfl, rfl⟩, r0 ?_, trivial⟩, ⟨⟨j0 ?_, j0 ?_, j0 ?_, j0 ?_, trivial⟩, ⟨rfl, rfl, rfl, rfl, trivial⟩, ⟨j0 ?_, j0 ?_, j0 ?_, j0 ?_, trivial⟩, ⟨⟨rfl, rfl⟩, ?_⟩, trivial⟩⟩) (fun ⟨k, hk⟩ => ?_))))); rotate_right; conv => whnf) | (refine Exists.intro (⟨k + 1, ?_⟩ : {k : Nat // k ≤ 6}) (And.intro ?_ (SubP.sub (σ := [(2, some 2), (4, some 4), (7, some 7), (106, some 106)]) ⟨⟨rfl, rfl, rfl⟩, ⟨r0 ?_, ⟨rfl, rfl⟩, ⟨rfl, rfl⟩, rfl, ⟨rfl, rfl⟩, r0 ?_, trivial⟩, ⟨⟨j0 ?_, j0 ?_, j0 ?_, j0 ?_, trivial⟩, ⟨rfl, rfl, rfl, rfl, trivial⟩, ⟨j0 ?_, j0 ?_, j0 ?_, j0 ?_, trivial⟩, ⟨⟨rfl, rfl⟩, ?_⟩, trivial⟩⟩))) | ((with_reducible refine vB (g := 18) ?_); refine ⟨_, _, f_Split (hs := ?_) .., rfl, zV ?_⟩; rotate_right; conv => whnf) | ((with_reducible first | refine g0 (g := 19) ?_ | show Exists _); refine ⟨_, hZ (hs := ?_) .., rfl, ?_⟩; rotate_right; conv => whnf) | ((with_reducible first | refine g0 (g := 20) ?_ | show Exists _); refine ⟨_, fT .., rfl, ?_⟩; rotate_right; conv => whnf) | ((with_reducible first | refine g0 (g := 7) ?_ | show Exists _); refine ⟨_, jT .., rfl, ?_⟩; rotate_right; conv => whnf) | (intro h; conv => whnf))
  all_goals repeat clear hK K1
  all_goals first | (with_reducible exact trivial) | (with_reducible assumption) | omega | (dsimp only; omega) | exact di_eq (wk_y asmR) | exact di_eq (wk_n asmR) | exact di_eq (by rw [u4 omG omG]; omega) | exact di_eq (rfl : ((0 + 1 : Nat) : Int) = 1) | exact at_len rfl hs omG | (have q : x8 ⟨w, mem, inn, code⟩ s = (⟨0, 0, 0, 0⟩, false) := (by first | exact rf_3 asmR | exact rf_4 asmR | exact zE (raw_1 hk asmR (.inl asmR) asmR) asmR | exact zE (raw_1 hk asmR (.inr asmR) asmR) asmR | exact zE (raw_2 hk asmR (.inl asmR) asmR) asmR | exact zE (raw_2 hk asmR (.inr asmR) asmR) asmR | exact zE (raw_3 hk asmR asmR asmR asmR) asmR | exact zE (raw_4 hk asmR asmR asmR asmR) asmR); first | exact db_eq (by rw [q]) | exact ⟨di_eq (by rw [q]), di_eq (by rw [q]), di_eq (by rw [q]), di_eq (by rw [q]), trivial⟩) | (have q := rf_y (p := ⟨w, mem, inn, code⟩) (s := s) asmR asmR; first | exact db_eq (by rw [q]) | exact ⟨di_eq (by rw [q]), di_eq (by rw [q]), di_eq (by rw [q]), di_eq (by rw [q]), trivial⟩) | rfl | skip
section
variable {l : List ByteArray} {k : Nat}
end
end Vg
