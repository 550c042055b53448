/- Instructions are read by the program: contracts. Condition: the text is not too long. -/
import Derived.Test.YtgbjdifegilniaaGreatDoorFtxL
namespace Vg
open Go Go.Proofs
set_option maxRecDepth 100000
set_option maxHeartbeats 40000000
section
variable {s : ByteArray} {w n : Int}
theorem iy_0 (h : s = ⟨#[]⟩) : pA s w n = (⟨0, 0, 0, 0⟩, false) := if_neg (fun k => k.1 h)
theorem iy_3 (h : ((o4 32 s).length : Int) > 3) : pA s w n = (⟨0, 0, 0, 0⟩, false) := if_neg (fun k => by have := k.2.1; omega)
theorem iy_n {i : V.Ins} (e : b8 (o4 32 s) = i) (h : y7 i w n ≠ s) : pA s w n = (⟨0, 0, 0, 0⟩, false) := if_neg (fun k => by rw [e] at k; exact h k.2.2)
theorem iy_y {i : V.Ins} (h0 : s ≠ ⟨#[]⟩) (h3 : ¬ ((o4 32 s).length : Int) > 3) (e : b8 (o4 32 s) = i) (h : y7 i w n = s) : pA s w n = (i, true) := by
  unfold pA
  rw [e, if_pos ⟨h0, by omega, h⟩]
end
theorem ix_y {s : ByteArray} {k : Nat} (h : (u7 ((k : Int) + 1)).toList == s.toList) : u6 s (k + 1) = (k : Int) + 1 := by rw [u6, if_pos (str_eq h)]
theorem ix_n {s : ByteArray} {k : Nat} (h : ((u7 ((k : Int) + 1)).toList == s.toList) = false) : u6 s (k + 1) = u6 s k := by rw [u6, if_neg (str_ne h)]
theorem rN (c : UInt8) (s : ByteArray) : 0 < (o4 c s).length := by
  unfold o4
  rw [List.length_map]
  exact List.length_pos_iff.2 (nN c _)
section
variable {l : List ByteArray} {k : Nat}
theorem k14 (hk : k ≤ 14) (h : ¬ (k : Int) + 1 ≤ 14) : k = 14 := by omega
theorem dO {x c : Int} (hx : u6 (sAt l 0) 14 = x) (hc : t6 (sAt l 0) = c) (h : x = 0 ∧ 3 ≤ c ∧ c ≤ 16) : b8 l = if l.length = 3 then ⟨3, s6 (sAt l 1), s6 (sAt l 2), c⟩ else if l.length = 2 then ⟨3, s6 (sAt l 1), 0, c⟩ else ⟨3, 0, 0, c⟩ := by
  unfold b8
  simp only [hx, hc]
  rw [if_pos h, if_pos h, if_neg (show ¬ (l.length = 2 ∧ ((3 : Int) = 9 ∨ (3 : Int) = 11)) by omega)]
theorem vK {x c : Int} (hx : u6 (sAt l 0) 14 = x) (hc : t6 (sAt l 0) = c) (h : ¬ (x = 0 ∧ 3 ≤ c ∧ c ≤ 16)) : b8 l = if l.length = 3 then ⟨x, s6 (sAt l 1), s6 (sAt l 2), 0⟩ else if l.length = 2 ∧ (x = 9 ∨ x = 11) then ⟨x, 0, s6 (sAt l 1), 0⟩ else if l.length = 2 then ⟨x, s6 (sAt l 1), 0, 0⟩ else ⟨x, 0, 0, 0⟩ := by
  unfold b8
  simp only [hx, hc]
  rw [if_neg h, if_neg h]
variable (hk : k ≤ 14) (h14 : ¬ (k : Int) + 1 ≤ 14)
include hk h14
theorem vU (hx : u6 (sAt l 0) k = 0) (hc : inP (t6 (l.getD (Int.toNat 0) K.strs.dflt)) 3 16 = true) (hl : (l.length : Int) = 3) : b8 l = ⟨3, s6 (l.getD (Int.toNat 1) K.strs.dflt), s6 (l.getD (Int.toNat 2) K.strs.dflt), t6 (l.getD (Int.toNat 0) K.strs.dflt)⟩ := by
  rw [k14 hk h14] at hx
  rw [dO hx rfl ⟨rfl, y9.1 hc⟩, if_pos omG]; rfl
theorem wU (hx : u6 (sAt l 0) k = 0) (hc : inP (t6 (l.getD (Int.toNat 0) K.strs.dflt)) 3 16 = true) (hl : (l.length : Int) = 2) : b8 l = ⟨3, s6 (l.getD (Int.toNat 1) K.strs.dflt), 0, t6 (l.getD (Int.toNat 0) K.strs.dflt)⟩ := by
  rw [k14 hk h14] at hx
  rw [dO hx rfl ⟨rfl, y9.1 hc⟩, if_neg omG, if_pos omG]; rfl
theorem xU (hx : u6 (sAt l 0) k = 0) (hc : inP (t6 (l.getD (Int.toNat 0) K.strs.dflt)) 3 16 = true) (h3 : ¬ (l.length : Int) = 3) (h2 : ¬ (l.length : Int) = 2) : b8 l = ⟨3, 0, 0, t6 (l.getD (Int.toNat 0) K.strs.dflt)⟩ := by
  rw [k14 hk h14] at hx
  rw [dO hx rfl ⟨rfl, y9.1 hc⟩, if_neg omG, if_neg omG]; rfl
theorem qD (hx : ¬ u6 (sAt l 0) k = 0) : ¬ (u6 (sAt l 0) 14 = 0 ∧ 3 ≤ t6 (sAt l 0) ∧ t6 (sAt l 0) ≤ 16) := by
  rw [k14 hk h14] at hx
  exact fun e => hx e.1
omit hk h14 in
theorem pD (hc : inP (t6 (l.getD (Int.toNat 0) K.strs.dflt)) 3 16 = false) : ¬ (u6 (sAt l 0) 14 = 0 ∧ 3 ≤ t6 (sAt l 0) ∧ t6 (sAt l 0) ≤ 16) := fun e => by
  have q : inP (t6 (sAt l 0)) 3 16 = true := y9.2 e.2
  rw [show inP (t6 (sAt l 0)) 3 16 = false from hc] at q
  cases q
omit hk h14
theorem sU (hk : k ≤ 14) (h14 : ¬ (k : Int) + 1 ≤ 14) (hn : ¬ (u6 (sAt l 0) 14 = 0 ∧ 3 ≤ t6 (sAt l 0) ∧ t6 (sAt l 0) ≤ 16)) (hl : (l.length : Int) = 3) : b8 l = ⟨u6 (sAt l 0) k, s6 (l.getD (Int.toNat 1) K.strs.dflt), s6 (l.getD (Int.toNat 2) K.strs.dflt), 0⟩ := by
  rw [k14 hk h14, vK rfl rfl hn, if_pos omG]; rfl
theorem rU (hk : k ≤ 14) (h14 : ¬ (k : Int) + 1 ≤ 14) (hn : ¬ (u6 (sAt l 0) 14 = 0 ∧ 3 ≤ t6 (sAt l 0) ∧ t6 (sAt l 0) ≤ 16)) (hl : (l.length : Int) = 2) (h9 : u6 (sAt l 0) k = 9 ∨ u6 (sAt l 0) k = 11) : b8 l = ⟨u6 (sAt l 0) k, 0, s6 (l.getD (Int.toNat 1) K.strs.dflt), 0⟩ := by
  rw [k14 hk h14] at h9 ⊢
  rw [vK rfl rfl hn, if_neg omG, if_pos ⟨by omega, h9⟩]; rfl
theorem tU (hk : k ≤ 14) (h14 : ¬ (k : Int) + 1 ≤ 14) (hn : ¬ (u6 (sAt l 0) 14 = 0 ∧ 3 ≤ t6 (sAt l 0) ∧ t6 (sAt l 0) ≤ 16)) (hl : (l.length : Int) = 2) (h9 : ¬ u6 (sAt l 0) k = 9) (h11 : ¬ u6 (sAt l 0) k = 11) : b8 l = ⟨u6 (sAt l 0) k, s6 (l.getD (Int.toNat 1) K.strs.dflt), 0, 0⟩ := by
  rw [k14 hk h14] at h9 h11 ⊢
  rw [vK rfl rfl hn, if_neg omG, if_neg (fun e => e.2.elim h9 h11), if_pos omG]; rfl
theorem uU (hk : k ≤ 14) (h14 : ¬ (k : Int) + 1 ≤ 14) (hn : ¬ (u6 (sAt l 0) 14 = 0 ∧ 3 ≤ t6 (sAt l 0) ∧ t6 (sAt l 0) ≤ 16)) (h3 : ¬ (l.length : Int) = 3) (h2 : ¬ (l.length : Int) = 2) : b8 l = ⟨u6 (sAt l 0) k, 0, 0, 0⟩ := by
  rw [k14 hk h14, vK rfl rfl hn, if_neg omG, if_neg omG, if_neg omG]
end
theorem jY (s : ByteArray) (w n : Int) (hs : s.size ≤ 1048576) : CallsV Tryz.prog 17 [.dat (.str s), .dat (.i w), .dat (.i n)] (.tup [.agg [.dat (.i (pA s w n).1.op), .dat (.i (pA s w n).1.a), .dat (.i (pA s w n).1.b), .dat (.i (pA s w n).1.c)], .dat (.bool (pA s w n).2)]) := by
  refine oV Tryz.func17 ⟨?_⟩
  repeat' (first | ((with_reducible refine fun (K1 : KT) hK => ?_); (with_reducible refine j5 ?_ ?_); exact rfl; conv => whnf) | ((with_reducible refine Alt.l ?_); conv => whnf) | ((with_reducible refine fun (K1 : KT) hK => ?_); conv => whnf) | ((with_reducible show K1 _ _); subst hK; conv => whnf) | (with_reducible exact rfl) | ((with_reducible refine a8 ?_); conv => whnf) | ((with_reducible refine tB ?_); conv => whnf) | ((with_reducible refine m9 ?_); conv => whnf) | ((with_reducible refine f9 ?_); conv => whnf) | ((with_reducible refine d7 (fun h => ?_) (fun h => ?_)) <;> first | contradiction | (subst h; conv => whnf) | (conv => whnf)) | ((with_reducible refine sp_eF ?_ ?_); decide; conv => whnf) | ((with_reducible refine uA (fun h => ?_) (fun h => ?_)) <;> first | contradiction | (subst h; conv => whnf) | (conv => whnf)) | ((with_reducible refine wF (fun h => ?_) (fun h => ?_)) <;> first | contradiction | (subst h; conv => whnf) | (conv => whnf)) | ((with_reducible refine e9 (fun h => ?_) (fun h => ?_)) <;> first | (exact u2 h asmR) | (exact u2 asmR h) | (conv => whnf)) | ((with_reducible refine vA (fun h => ?_) (fun h => ?_)) <;> first | (exact u2 h asmR) | (exact u2 asmR h) | (conv => whnf)) | ((with_reducible refine sp_b' (fun h => ?_) (fun h => ?_)) <;> first | (exact u2 h asmR) | (exact u2 asmR h) | (conv => whnf)) | (refine ⟨(rfl : d4 _ = true), rfl, ?_⟩; conv => whnf) | (with_reducible refine q8 ?_ ?_) | refine p3 ⟨?_⟩ ⟨?_⟩ | (refine Exists.intro ({k : Nat // k ≤ 14}) (Exists.intro (fun ⟨k, hk⟩ => x5 Tryz.f17.ntmps [(0, .dat (.str s)), (1, .dat (.i w)), (2, .dat (.i n)), (6, .ptr 6 0), (8, .row 108), (9, .ptr 9 0), (10, .dat (.i ((k : Int) + 1)))] [(6, .box [.dat (.i 0), .dat (.i 0), .dat (.i 0), .dat (.i 0)]), (108, .row 9 .strs (o4 32 s) false), (9, .box [.dat (.i (u6 (sAt (o4 32 s) 0) k)), .dat (.i 0), .dat (.i 0), .dat (.i 0)])]) (Exists.intro (fun ⟨k, hk⟩ => 14 - k) (Exists.intro ⟨0, Nat.zero_le _⟩ (And.intro (SubP.sub (σ := [(6, some 6), (108, some 14000), (9, some 9)]) ⟨⟨rfl, rfl, rfl⟩, ⟨j0 ?_, j0 ?_, j0 ?_, ⟨rfl, rfl⟩, rfl, ⟨rfl, rfl⟩, j0 ?_, trivial⟩, ⟨⟨g0 ?_, g0 ?_, g0 ?_, g0 ?_, trivial⟩, ⟨⟨rfl, rfl⟩, ?_⟩, ⟨g0 ?_, g0 ?_, g0 ?_, g0 ?_, trivial⟩, trivial⟩⟩) (fun ⟨k, hk⟩ => ?_))))); rotate_right; conv => whnf) | (refine Exists.intro (⟨k + 1, ?_⟩ : {k : Nat // k ≤ 14}) (And.intro ?_ (SubP.sub (σ := [(6, some 6), (108, some 108), (9, some 9)]) ⟨⟨rfl, rfl, rfl⟩, ⟨j0 ?_, j0 ?_, j0 ?_, ⟨rfl, rfl⟩, rfl, ⟨rfl, rfl⟩, j0 ?_, trivial⟩, ⟨⟨g0 ?_, g0 ?_, g0 ?_, g0 ?_, trivial⟩, ⟨⟨rfl, rfl⟩, ?_⟩, ⟨g0 ?_, g0 ?_, g0 ?_, g0 ?_, trivial⟩, trivial⟩⟩))) | ((with_reducible refine aB (g := 35) ?_); refine ⟨_, _, rZ (hs := ?_) .., rfl, zV ?_⟩; rotate_right; conv => whnf) | ((with_reducible first | refine s0 (g := 45) ?_ | show Exists _); refine ⟨_, dY (h0 := ?_) (h1 := ?_) .., rfl, ?_⟩; rotate_right; conv => whnf) | ((with_reducible first | refine s0 (g := 46) ?_ | show Exists _); refine ⟨_, i_OpOf .., rfl, ?_⟩; rotate_right; conv => whnf) | ((with_reducible first | refine s0 (g := 47) ?_ | show Exists _); refine ⟨_, cY .., rfl, ?_⟩; rotate_right; conv => whnf) | ((with_reducible first | refine s0 (g := 48) ?_ | show Exists _); refine ⟨_, qdq (hs := ?_) .., rfl, ?_⟩; rotate_right; conv => whnf) | ((with_reducible first | refine s0 (g := 18) ?_ | show Exists _); refine ⟨_, qP .., rfl, ?_⟩; rotate_right; conv => whnf) | ((with_reducible show d3 _ _ _ _ _ _); conv => whnf) | (intro h; conv => whnf))
  all_goals repeat clear hK K1
  all_goals first | (with_reducible assumption) | exact trivial | ((with_reducible show yG _ _ _); first | (rw [iy_0 (str_eq asmR)]; first | exact rfl | exact ⟨rfl, rfl, rfl, rfl, trivial⟩) | (rw [iy_3 asmR]; first | exact rfl | exact ⟨rfl, rfl, rfl, rfl, trivial⟩) | (have e2 := str_ne (show (ByteArray.toList (y7 _ w n) == s.toList) = false from by assumption); rw [iy_n (by first | exact vU hk (by assumption) (by assumption) (by assumption) (by assumption) | exact wU hk (by assumption) (by assumption) (by assumption) (by assumption) | exact xU hk (by assumption) (by assumption) (by assumption) (by assumption) (by assumption) | exact sU hk (by assumption) (by first | exact qD hk (by assumption) (by assumption) | exact pD (by assumption)) (by assumption) | exact rU hk (by assumption) (by first | exact qD hk (by assumption) (by assumption) | exact pD (by assumption)) (by assumption) (by first | exact .inl (by assumption) | exact .inr (by assumption)) | exact tU hk (by assumption) (by first | exact qD hk (by assumption) (by assumption) | exact pD (by assumption)) (by assumption) (by assumption) (by assumption) | exact uU hk (by assumption) (by first | exact qD hk (by assumption) (by assumption) | exact pD (by assumption)) (by assumption) (by assumption)) e2]; first | exact rfl | exact ⟨rfl, rfl, rfl, rfl, trivial⟩) | (have e2 := str_eq (show (ByteArray.toList (y7 _ w n) == s.toList) = true from by assumption); rw [iy_y (str_ne asmR) asmR (by first | exact vU hk (by assumption) (by assumption) (by assumption) (by assumption) | exact wU hk (by assumption) (by assumption) (by assumption) (by assumption) | exact xU hk (by assumption) (by assumption) (by assumption) (by assumption) (by assumption) | exact sU hk (by assumption) (by first | exact qD hk (by assumption) (by assumption) | exact pD (by assumption)) (by assumption) | exact rU hk (by assumption) (by first | exact qD hk (by assumption) (by assumption) | exact pD (by assumption)) (by assumption) (by first | exact .inl (by assumption) | exact .inr (by assumption)) | exact tU hk (by assumption) (by first | exact qD hk (by assumption) (by assumption) | exact pD (by assumption)) (by assumption) (by assumption) (by assumption) | exact uU hk (by assumption) (by first | exact qD hk (by assumption) (by assumption) | exact pD (by assumption)) (by assumption) (by assumption)) e2]; first | exact rfl | exact ⟨rfl, rfl, rfl, rfl, trivial⟩)) | ((with_reducible show (_ : Nat) < _); first | exact rN _ _ | omega | (dsimp only; omega)) | exact congrArg (Dat.int .i64) (ix_y h) | exact congrArg (Dat.int .i64) (ix_n h) | exact congrArg (Dat.int .i64) (z1 omG omG).symm | ((with_reducible show ByteArray.size _ ≤ _); exact Nat.le_trans (iT (by first | exact rN _ _ | omega)) hs) | exact Int.ofNat_lt.2 (rN _ _) | omega | exact rfl | skip
end Vg
