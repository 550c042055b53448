/- The law FnShrunk: shrunk inputs are not greater and take the same path. No condition. -/
import Derived.Test.YtjlffejifadkiaaGreatDoorGivP
import Derived.Test.YtjlffejifadkiaaGreatDoorShrI
import Derived.Test.YtjlffejifadkiaaGreatDoorPfF
namespace Vg
open Go Go.Proofs
set_option maxRecDepth 100000
set_option maxHeartbeats 40000000
theorem qbl {l : List Int} {k : Nat} (h : k < l.length) : l.getD k K.ints.dflt = l[k] := by
  rw [List.getD_eq_getElem?_getD, List.getElem?_eq_getElem h, Option.getD_some]
theorem qec {a b : List Int} {k : Nat} (hk : a.take k = b.take k) (ha : (k : Int) < a.length) (hb : (k : Int) < b.length) (he : b.getD (k : Int).toNat K.ints.dflt = a.getD (k : Int).toNat K.ints.dflt) : a.take (k + 1) = b.take (k + 1) := by
  have h1 : k < a.length := by omega
  have h2 : k < b.length := by omega
  rw [Int.toNat_natCast, qbl h1, qbl h2] at he
  rw [List.take_succ_eq_append_getElem h1, List.take_succ_eq_append_getElem h2, hk, he]
theorem qai {a b : List Int} {k : Nat} (hb : k ≤ b.length) (hk : a.take k = b.take k) (ha : ¬ (k : Int) < a.length) : Dat.bool ((a.length : Int) == b.length) = Dat.bool (decide (a = b)) := by
  refine congrArg Dat.bool ?_
  rw [Bool.eq_iff_iff, beq_iff_eq, decide_eq_true_iff]
  constructor
  · intro h
    rw [List.take_of_length_le omG, List.take_of_length_le omG] at hk
    exact hk
  · intro h; rw [h]
structure IntsI (a b : List Int) (k : Nat) : Prop where
  le : k ≤ b.length
  eq : a.take k = b.take k
theorem ints_s {a b : List Int} {k : Nat} (hk : IntsI a b k) (ha : (k : Int) < a.length) (hb : ¬ (k : Int) ≥ b.length) (he : b.getD (k : Int).toNat K.ints.dflt = a.getD (k : Int).toNat K.ints.dflt) : IntsI a b (k + 1) :=
  ⟨by omega, qec hk.eq ha omG he⟩
theorem vZ (a b : List Int) : CallsV Tryz.prog 11 [.dat (.seq .ints a), .dat (.seq .ints b)] (.dat (.bool (decide (a = b)))) := by
  refine oV Tryz.func11 ⟨?_⟩
  repeat' (first | ((with_reducible refine fun (K1 : KT) hK => ?_); refine m4 ⟨?_⟩) | ((with_reducible show K1 _ _); subst hK; conv => whnf) | (with_reducible exact rfl) | refine st0 ⟨?_⟩ | ((with_reducible refine SplS.mk (fun h => ?_) (fun h => ?_)) <;> first | exact r0 | (subst h; conv => whnf) | (conv => whnf)) | refine f1 ⟨?_⟩ ⟨?_⟩ | (refine Exists.intro ({k : Nat // IntsI a b k}) (Exists.intro (fun ⟨k, hk⟩ => r4 Tryz.f11.ntmps [(0, .dat (.seq .ints a)), (1, .dat (.seq .ints b)), (7, .dat (.seq .ints a)), (8, .dat (.i a.length)), (9, .dat (.i k))] []) (Exists.intro (fun ⟨k, hk⟩ => a.length - k) (Exists.intro ⟨0, ⟨Nat.zero_le _, rfl⟩⟩ (And.intro (SubP.sub (σ := []) ⟨⟨rfl, rfl, rfl⟩, ⟨o0 ?_, o0 ?_, o0 ?_, o0 ?_, o0 ?_, trivial⟩, trivial⟩) (fun ⟨k, hk⟩ => ?_))))); rotate_right; conv => whnf) | (refine Exists.intro (⟨k + 1, ?_⟩ : {k : Nat // IntsI a b k}) (And.intro ?_ (SubP.sub (σ := []) ⟨⟨rfl, rfl, rfl⟩, ⟨o0 ?_, o0 ?_, o0 ?_, o0 ?_, o0 ?_, trivial⟩, trivial⟩))) | (intro h; conv => whnf))
  all_goals repeat clear hK K1
  all_goals first | (with_reducible assumption) | (with_reducible rfl) | exact congrArg Dat.bool (decide_eq_false (fun e => by subst e; omega)) | exact (congrArg Dat.bool (decide_eq_false (fun e => by subst e; omega))).symm | exact congrArg Dat.bool (decide_eq_false (fun e => by subst e; exact (by assumption : ¬ _) rfl)) | exact (congrArg Dat.bool (decide_eq_false (fun e => by subst e; exact (by assumption : ¬ _) rfl))).symm | exact ints_s hk asmR asmR asmR | exact qai hk.le hk.eq asmR | exact (qai hk.le hk.eq asmR).symm | exact congrArg (Dat.int .i64) (wrap_succ asmR asmR).symm | exact (rfl : Dat.i ((0 : Nat) : Int) = Dat.int .i64 0) | omega | (dsimp only; omega) | skip
section
variable {p : V.Prog} {l : List Int} {f : Nat}
theorem qK (h : n6 p l = true) : ShrI p (startP p) l f l.length := kM (lS (tB h).2) l.length (Nat.le_refl _)
theorem qbp (h : n6 p l = true) : (gA p l f).length = l.length := (qK h).len
theorem fs_lo (h : n6 p l = true) (k : Nat) : 0 ≤ (gA p l f).getD k K.ints.dflt ∧ (gA p l f).getD k K.ints.dflt ≤ l.getD k K.ints.dflt := (qK h).lo k
theorem fs_l3 (h : n6 p l = true) : (gA p l f).length ≤ 3 := by have q := pW (f := f) h; omega
theorem fs_in (h : n6 p l = true) : n6 p (gA p l f) = true := of_in (tB h).1 (oW (tB h).2 (qK h).len (qK h).lo)
theorem aO (h : n6 p l = true) : (o4 p (startP p) f (gA p l f)).code = (o4 p (startP p) f l).code ∧ (o4 p (startP p) f (gA p l f)).out.length = (o4 p (startP p) f l).out.length ∧ (o4 p (startP p) f (gA p l f)).turns = (o4 p (startP p) f l).turns := lM.1 (qK h).same
end
theorem fu30 (b : List Int) : 0 ≤ g8 b 64 0 30 ∧ g8 b 64 0 30 ≤ 30 := lW b 64 (by decide)
theorem fu30P (b : List Int) : inP (g8 b 64 0 30) 0 400 = true := by
  have := fu30 b
  exact inP_iff.2 ⟨by omega, by omega⟩
theorem law_FS (b : List Int) : CallsV Tryz.prog 3 [.dat (.seq .bytes b)] (.dat (.bool true)) := by
  refine oV Tryz.func3 ⟨?_⟩
  repeat' (first | ((with_reducible refine fun (K1 : KT) hK => ?_); refine l5 ⟨?_⟩) | ((with_reducible show K1 _ _); subst hK; conv => whnf) | (with_reducible exact rfl) | refine st0 ⟨?_⟩ | ((with_reducible refine SplS.mk (fun h => ?_) (fun h => ?_)) <;> first | exact r0 | (subst h; conv => whnf) | (conv => whnf)) | refine f1 ⟨?_⟩ ⟨?_⟩ | (refine Exists.intro ({k : Nat // k ≤ (gA ⟨w, mem, inn, code⟩ (jA w b 60 inn.toNat) (g8 b 64 0 30).toNat).length}) (Exists.intro (fun ⟨k, hk⟩ => r4 Tryz.f3.ntmps [(3, .ptr 3 0), (4, .dat (.seq .ints (jA w b 60 inn.toNat))), (5, .dat (.i (g8 b 64 0 30))), (6, .row 6), (32, .row 6), (33, .dat (.i (gA ⟨w, mem, inn, code⟩ (jA w b 60 inn.toNat) (g8 b 64 0 30).toNat).length)), (34, .dat (.i k))] [(3, .box [.dat (.i w), .dat (.i mem), .dat (.i inn), .dat (.seq .inss code)]), (6, .row 3 .ints (gA ⟨w, mem, inn, code⟩ (jA w b 60 inn.toNat) (g8 b 64 0 30).toNat) false)]) (Exists.intro (fun ⟨k, hk⟩ => (gA ⟨w, mem, inn, code⟩ (jA w b 60 inn.toNat) (g8 b 64 0 30).toNat).length - k) (Exists.intro ⟨0, Nat.zero_le _⟩ (And.intro (SubP.sub (σ := [(3, some 3), (6, some 27000)]) ⟨⟨rfl, rfl, rfl⟩, ⟨⟨rfl, rfl⟩, o0 ?_, o0 ?_, rfl, rfl, o0 ?_, o0 ?_, trivial⟩, ⟨⟨j0 ?_, j0 ?_, j0 ?_, j0 ?_, trivial⟩, ⟨⟨rfl, rfl⟩, ?_⟩, trivial⟩⟩) (fun ⟨k, hk⟩ => ?_))))); rotate_right; conv => whnf) | (refine Exists.intro (⟨k + 1, ?_⟩ : {k : Nat // k ≤ (gA ⟨w, mem, inn, code⟩ (jA w b 60 inn.toNat) (g8 b 64 0 30).toNat).length}) (And.intro ?_ (SubP.sub (σ := [(3, some 3), (6, some 6)]) ⟨⟨rfl, rfl, rfl⟩, ⟨⟨rfl, rfl⟩, o0 ?_, o0 ?_, rfl, rfl, o0 ?_, o0 ?_, trivial⟩, ⟨⟨j0 ?_, j0 ?_, j0 ?_, j0 ?_, trivial⟩, ⟨⟨rfl, rfl⟩, ?_⟩, trivial⟩⟩))) | ((with_reducible refine o8 (g := 6) ?_); refine ⟨_, _, qc9 (hn := ?_) (hl := asmR) .., rfl, fun res B hRB => ?_⟩; rotate_right; obtain ⟨⟨w, mem, inn, code, rfl, hp⟩, rfl⟩ := hRB; conv => whnf) | ((with_reducible first | refine n0 (g := 7) ?_ | show Exists _); refine ⟨_, qV (hn := ?_) (hl := by assumption) (h1 := ?_) .., rfl, ?_⟩; rotate_right; conv => whnf) | ((with_reducible first | refine n0 (g := 8) ?_ | show Exists _); refine ⟨_, qc8 (hn := ?_) (h1 := ?_) (h2 := ?_) (h3 := ?_) (hl := ?_) .., rfl, ?_⟩; rotate_right; conv => whnf) | ((with_reducible refine o8 (g := 9) ?_); refine ⟨_, _, pS (hi := ?_) (hf := ?_) .., rfl, zV ?_⟩; rotate_right; conv => whnf) | ((with_reducible first | refine n0 (g := 10) ?_ | show Exists _); refine ⟨_, nM (hi := ?_) (hf := ?_) (hf2 := ?_) .., rfl, ?_⟩; rotate_right; conv => whnf) | ((with_reducible first | refine n0 (g := 11) ?_ | show Exists _); refine ⟨_, vZ .., rfl, ?_⟩; rotate_right; conv => whnf) | ((with_reducible refine t0 (g := 6) ?_); (conv => whnf); refine ⟨_, _, qc9 (hn := ?_) (hl := asmR) .., rfl, fun res B hRB => ?_⟩; rotate_right; obtain ⟨⟨w, mem, inn, code, rfl, hp⟩, rfl⟩ := hRB; conv => whnf) | ((with_reducible refine t0 (g := 7) ?_); (conv => whnf); refine ⟨_, _, qV (hn := ?_) (hl := asmR) (h1 := ?_) .., rfl, zV ?_⟩; rotate_right; conv => whnf) | ((with_reducible refine t0 (g := 8) ?_); (conv => whnf); refine ⟨_, _, qc8 (hn := ?_) (h1 := ?_) (h2 := ?_) (h3 := ?_) (hl := ?_) .., rfl, zV ?_⟩; rotate_right; conv => whnf) | ((with_reducible refine t0 (g := 9) ?_); (conv => whnf); refine ⟨_, _, pS (hi := ?_) (hf := ?_) .., rfl, zV ?_⟩; rotate_right; conv => whnf) | ((with_reducible refine t0 (g := 10) ?_); (conv => whnf); refine ⟨_, _, nM (hi := ?_) (hf := ?_) (hf2 := ?_) .., rfl, zV ?_⟩; rotate_right; conv => whnf) | ((with_reducible refine t0 (g := 11) ?_); (conv => whnf); refine ⟨_, _, vZ .., rfl, zV ?_⟩; rotate_right; conv => whnf) | (intro h; conv => whnf))
  all_goals repeat clear hK K1
  all_goals (try simp only [Int.toNat_natCast] at *)
  all_goals first | (with_reducible assumption) | decide | exact bE b 60 hp | exact fs_in (bE b 60 hp) | exact fu30P b | exact (fu30 b).1 | (have q := fu30 b; omega) | (have q := oQ hp; simp only at q; omega) | (have q := qbp (f := (g8 b 64 0 30).toNat) (bE b 60 hp); exact absurd (congrArg (Nat.cast : Nat → Int) q) asmR) | (have q := fs_lo (f := (g8 b 64 0 30).toNat) (bE b 60 hp) k; exfalso; first | exact absurd q.1 (Int.not_le.2 asmR) | exact absurd q.2 (Int.not_le.2 asmR)) | (have q := qbp (f := (g8 b 64 0 30).toNat) (bE b 60 hp); dsimp only at q; (try dsimp only); omega) | (have q := aO (f := (g8 b 64 0 30).toNat) (bE b 60 hp); exfalso; first | exact absurd q.2.2.symm asmR | exact absurd q.1.symm asmR) | (have q := aO (f := (g8 b 64 0 30).toNat) (bE b 60 hp); exact congrArg Dat.bool (decide_eq_true (congrArg (Nat.cast : Nat → Int) q.2.1).symm)) | (have q := aO (f := (g8 b 64 0 30).toNat) (bE b 60 hp); exact congrArg Dat.bool (beq_iff_eq.2 (congrArg (Nat.cast : Nat → Int) q.2.1).symm)) | (have q := aO (f := (g8 b 64 0 30).toNat) (bE b 60 hp); exact (congrArg Dat.bool (beq_iff_eq.2 (congrArg (Nat.cast : Nat → Int) q.2.1).symm)).symm) | (refine congrArg (Dat.int .i64) ?_; have q := fs_l3 (f := (g8 b 64 0 30).toNat) (bE b 60 hp); dsimp only at q; rw [wrap_id omG omG]; rfl) | exact rfl | skip
end Vg
