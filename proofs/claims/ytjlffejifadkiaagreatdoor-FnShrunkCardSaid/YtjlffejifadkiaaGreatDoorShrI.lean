/- The program's ShrinkInputs: contract. Conditions: the inputs are the program's, the fuel is not too great. -/
import Derived.Test.YtjlffejifadkiaaGreatDoorPfI
import Derived.Test.YtjlffejifadkiaaGreatDoorPfL
import Derived.Test.YtjlffejifadkiaaGreatDoorSess
namespace Vg
open Go Go.Proofs
set_option maxRecDepth 100000
set_option maxHeartbeats 40000000
theorem qhp (a b : List Int) : CallsV Tryz.prog 36 [.dat (.seq .ints a), .dat (.seq .ints b)] (.dat (.bool (decide (a = b)))) := by
  refine oV Tryz.func36 ⟨?_⟩
  repeat' (first | ((with_reducible refine fun (K1 : KT) hK => ?_); refine z1 ⟨?_⟩) | ((with_reducible show K1 _ _); subst hK; conv => whnf) | (with_reducible exact rfl) | refine st0 ⟨?_⟩ | ((with_reducible refine SplS.mk (fun h => ?_) (fun h => ?_)) <;> first | exact r0 | (subst h; conv => whnf) | (conv => whnf)) | refine f1 ⟨?_⟩ ⟨?_⟩ | (refine Exists.intro ({k : Nat // a.take k = b.take k}) (Exists.intro (fun ⟨k, hk⟩ => r4 Tryz.f36.ntmps [(0, .dat (.seq .ints a)), (1, .dat (.seq .ints b)), (12, .dat (.i a.length)), (13, .dat (.i k))] []) (Exists.intro (fun ⟨k, hk⟩ => a.length - k) (Exists.intro ⟨0, rfl⟩ (And.intro (SubP.sub (σ := []) ⟨⟨rfl, rfl, rfl⟩, ⟨o0 ?_, o0 ?_, o0 ?_, o0 ?_, trivial⟩, trivial⟩) (fun ⟨k, hk⟩ => ?_))))); rotate_right; conv => whnf) | (refine Exists.intro ⟨k + 1, ?_⟩ (And.intro ?_ (SubP.sub (σ := []) ⟨⟨rfl, rfl, rfl⟩, ⟨o0 ?_, o0 ?_, o0 ?_, o0 ?_, trivial⟩, trivial⟩))) | (intro h; conv => whnf))
  all_goals repeat clear hK K1
  all_goals first | rfl | assumption | exact Bool.noConfusion (h.symm.trans hp) | omega | (dsimp only; omega) | exact congrArg (Dat.int .i64) (wrap_succ (by assumption) (by assumption)).symm | exact congrArg Dat.bool (decide_eq_false (fun e => h (by rw [e]))) | exact wG (K.dflt .ints) (by assumption) omG hk (of_decide_eq_true h) | exact wG (K.dflt .ints) (by assumption) omG hk h | exact congrArg Dat.bool (decide_eq_true (yL (by assumption) omG hk))
theorem qa3 (n : Int) : CallsV Tryz.prog 33 [.dat (.i n)] (.dat (.bool (inP n 0 400))) := by
  refine oV Tryz.func33 ⟨?_⟩
  repeat' (first | ((with_reducible refine fun (K1 : KT) hK => ?_); refine z1 ⟨?_⟩) | ((with_reducible show K1 _ _); subst hK; conv => whnf) | (with_reducible exact rfl) | refine st0 ⟨?_⟩ | ((with_reducible refine SplS.mk (fun h => ?_) (fun h => ?_)) <;> first | exact r0 | ((fail_if_success (have _x : @Eq Bool _ _ := h)); subst h; conv => whnf) | (conv => whnf)) | (intro h; conv => whnf))
  all_goals repeat clear hK K1
  all_goals simp [inP, *]
section
variable {p : V.Prog} {l : List Int} {f k n : Nat}
noncomputable abbrev shQ (p : V.Prog) (l : List Int) (f k : Nat) : Nat → Bool := fun n => eC (o4 p (startP p) f l) (o4 p (startP p) f ((o6 p (startP p) l f k).set k (n : Nat)))
structure ShN (p : V.Prog) (l : List Int) (f k n : Nat) : Prop where
  hi : n6 p l = true
  hk : k < l.length
  le : LeI (shQ p l f k) (l.getD k 0).toNat n
noncomputable def shO (p : V.Prog) (l : List Int) (f k : Nat) : Nat → List Int
  | 0 => o6 p (startP p) l f k
  | n + 1 => (o6 p (startP p) l f k).set k (n : Nat)
theorem shO_set : (shO p l f k n).set k (n : Nat) = (o6 p (startP p) l f k).set k (n : Nat) := by
  cases n with
  | zero => rfl
  | succ n => rw [shO, List.set_set]
theorem of_in (hp : y4 p = true) (h : InOk p l) : n6 p l = true := by
  unfold n6
  simp only [Bool.and_eq_true, beq_iff_eq, List.all_eq_true]
  exact ⟨hp, h.2, h.1⟩
theorem sn_0 (hi : n6 p l = true) (hk : (k : Int) < l.length) : ShN p l f k 0 := ⟨hi, by omega, le_0⟩
theorem ShN.i (h : ShN p l f k n) : ShrI p (startP p) l f k := kM (lS (tB h.hi).2) k (by have := h.hk; omega)
theorem ShN.nn (h : ShN p l f k n) : (((l.getD k 0).toNat : Nat) : Int) = l.getD k 0 := by
  have q := h.i.lo k
  rw [h.i.hi k (Nat.le_refl _)] at q
  exact Int.toNat_of_nonneg q.1
theorem ShN.len (h : ShN p l f k n) : (shO p l f k n).length = l.length := by
  cases n with
  | zero => exact h.i.len
  | succ n => rw [shO, List.length_set]; exact h.i.len
theorem ShN.lt (h : ShN p l f k n) : (n : Int) ≤ l.getD k 0 := by
  have := h.le.le
  rw [← h.nn]; omega
theorem ShN.top (h : ShN p l f k n) : shQ p l f k (l.getD k 0).toNat = true := by
  show eC (o4 p (startP p) f l) (o4 p (startP p) f ((o6 p (startP p) l f k).set k (((l.getD k 0).toNat : Nat) : Int))) = true
  rw [h.nn, wP (h.i.hi k (Nat.le_refl _))]
  exact h.i.same
theorem ShN.s (h : ShN p l f k n) (q : shQ p l f k n = false) : ShN p l f k (n + 1) := by
  refine ⟨h.hi, h.hk, le_s h.le ?_ q⟩
  by_cases c : n = (l.getD k 0).toNat
  · rw [c, h.top] at q; exact Bool.noConfusion q
  · have := h.le.le; omega
theorem ShN.hit (h : ShN p l f k n) (q : shQ p l f k n = true) : o6 p (startP p) l f (k + 1) = (o6 p (startP p) l f k).set k (n : Nat) := by
  rw [vJ]
  have e : shrK p (startP p) l f k = n := by
    by_cases c : n < (l.getD k 0).toNat
    · exact le_hit h.le c q
    · have := le_e h.le c
      have := h.le.le
      show sA (shQ p l f k) (l.getD k 0).toNat 0 = n
      omega
  rw [e]
theorem ShN.small (h : ShN p l f k n) : (n : Int) ≤ 65536 := by
  have h1 := h.lt
  obtain ⟨hp, hl⟩ := tB h.hi
  have hk : k < l.length := h.hk
  have q := k5 (hl.w (l.getD k 0) (by rw [List.getD_eq_getElem?_getD, List.getElem?_eq_getElem hk]; exact List.getElem_mem hk))
  have e : p.w.toNat ≤ 16 := by have := (inP_iff.1 q.1).2; omega
  have e2 : (2 : Nat) ^ p.w.toNat ≤ 2 ^ 16 := Nat.pow_le_pow_right (by decide) e
  have e3 : ((2 : Int) ^ p.w.toNat) = ((2 ^ p.w.toNat : Nat) : Int) := by norm_cast
  have q2 := q.2.2
  rw [e3] at q2
  omega
theorem ShN.inp (h : ShN p l f k n) : n6 p ((o6 p (startP p) l f k).set k (n : Nat)) = true := by
  obtain ⟨hp, hl⟩ := tB h.hi
  refine of_in hp (oW hl (by rw [List.length_set]; exact h.i.len) fun j => ?_)
  rw [sS]
  split
  · next c => obtain ⟨rfl, _⟩ := c; exact ⟨by omega, h.lt⟩
  · exact h.i.lo j
end
theorem pS (w mem inn : Int) (c : List V.Ins) (inp : List Int) (fuel : Int) (hi : n6 ⟨w, mem, inn, c⟩ inp = true) (hf : inP fuel 0 400 = true) : CallsF Tryz.prog 9 [.agg [.dat (.i w), .dat (.i mem), .dat (.i inn), .dat (.seq .inss c)], .dat (.seq .ints inp), .dat (.i fuel)] true (fun res B => res = .row 0 ∧ B = [.row 3 .ints (gA ⟨w, mem, inn, c⟩ inp fuel.toNat) false]) := by
  refine oF Tryz.func9 ⟨?_⟩
  repeat' (first | ((with_reducible refine fun (K1 : KT) hK => ?_); refine z1 ⟨?_⟩) | ((with_reducible show K1 _ _); subst hK; conv => whnf) | (with_reducible exact rfl) | refine st0 ⟨?_⟩ | ((with_reducible refine SplS.mk (fun h => ?_) (fun h => ?_)) <;> first | exact r0 | (subst h; conv => whnf) | (conv => whnf)) | refine f1 ⟨?_⟩ ⟨?_⟩ | (refine Exists.intro ({n : Nat // ShN ⟨w, mem, inn, c⟩ inp fuel.toNat k n}) (Exists.intro (fun ⟨n, hn⟩ => r4 Tryz.f9.ntmps [(1, .dat (.seq .ints inp)), (2, .dat (.i fuel)), (3, .ptr 3 0), (7, .ptr 7 0), (8, .row 8), (9, .dat (.i k)), (10, .dat (.i n)), (28, .dat (.i inp.length)), (29, .dat (.i k))] [(3, .box [.dat (.i w), .dat (.i mem), .dat (.i inn), .dat (.seq .inss c)]), (7, .box [.dat (.i (o4 ⟨w, mem, inn, c⟩ (startP ⟨w, mem, inn, c⟩) fuel.toNat inp).pc), .dat (.seq .terms (o4 ⟨w, mem, inn, c⟩ (startP ⟨w, mem, inn, c⟩) fuel.toNat inp).regs), .dat (.seq .terms (o4 ⟨w, mem, inn, c⟩ (startP ⟨w, mem, inn, c⟩) fuel.toNat inp).mem), .dat (.seq .ints (o4 ⟨w, mem, inn, c⟩ (startP ⟨w, mem, inn, c⟩) fuel.toNat inp).stack), .dat (.i (o4 ⟨w, mem, inn, c⟩ (startP ⟨w, mem, inn, c⟩) fuel.toNat inp).inn), .dat (.seq .terms (o4 ⟨w, mem, inn, c⟩ (startP ⟨w, mem, inn, c⟩) fuel.toNat inp).out), .dat (.i (o4 ⟨w, mem, inn, c⟩ (startP ⟨w, mem, inn, c⟩) fuel.toNat inp).code), .dat (.i (o4 ⟨w, mem, inn, c⟩ (startP ⟨w, mem, inn, c⟩) fuel.toNat inp).steps), .dat (.seq .terms (o4 ⟨w, mem, inn, c⟩ (startP ⟨w, mem, inn, c⟩) fuel.toNat inp).cond), .dat (.seq .ints (o4 ⟨w, mem, inn, c⟩ (startP ⟨w, mem, inn, c⟩) fuel.toNat inp).turns)]), (8, .row 3 .ints (shO ⟨w, mem, inn, c⟩ inp fuel.toNat k n) false)]) (Exists.intro (fun ⟨n, hn⟩ => (inp.getD k 0).toNat + 1 - n) (Exists.intro ⟨0, ?_⟩ (And.intro (SubP.sub (σ := [(3, some 3), (7, some 7), (8, some 8)]) ⟨⟨rfl, rfl, rfl⟩, ⟨o0 ?_, o0 ?_, ⟨rfl, rfl⟩, ⟨rfl, rfl⟩, rfl, o0 ?_, o0 ?_, o0 ?_, o0 ?_, trivial⟩, ⟨⟨j0 ?_, j0 ?_, j0 ?_, j0 ?_, trivial⟩, ⟨j0 ?_, j0 ?_, j0 ?_, j0 ?_, j0 ?_, j0 ?_, j0 ?_, j0 ?_, j0 ?_, j0 ?_, trivial⟩, ⟨⟨rfl, rfl⟩, ?_⟩, trivial⟩⟩) (fun ⟨n, hn⟩ => ?_))))); rotate_right; conv => whnf) | (refine Exists.intro (⟨n + 1, ?_⟩ : {n : Nat // ShN ⟨w, mem, inn, c⟩ inp fuel.toNat k n}) (And.intro ?_ (SubP.sub (σ := [(3, some 3), (7, some 7), (8, some 8)]) ⟨⟨rfl, rfl, rfl⟩, ⟨o0 ?_, o0 ?_, ⟨rfl, rfl⟩, ⟨rfl, rfl⟩, rfl, o0 ?_, o0 ?_, o0 ?_, o0 ?_, trivial⟩, ⟨⟨j0 ?_, j0 ?_, j0 ?_, j0 ?_, trivial⟩, ⟨j0 ?_, j0 ?_, j0 ?_, j0 ?_, j0 ?_, j0 ?_, j0 ?_, j0 ?_, j0 ?_, j0 ?_, trivial⟩, ⟨⟨rfl, rfl⟩, ?_⟩, trivial⟩⟩))) | (refine Exists.intro ({k : Nat // k ≤ inp.length}) (Exists.intro (fun ⟨k, hk⟩ => r4 Tryz.f9.ntmps [(1, .dat (.seq .ints inp)), (2, .dat (.i fuel)), (3, .ptr 3 0), (7, .ptr 7 0), (8, .row 8), (28, .dat (.i inp.length)), (29, .dat (.i k))] [(3, .box [.dat (.i w), .dat (.i mem), .dat (.i inn), .dat (.seq .inss c)]), (7, .box [.dat (.i (o4 ⟨w, mem, inn, c⟩ (startP ⟨w, mem, inn, c⟩) fuel.toNat inp).pc), .dat (.seq .terms (o4 ⟨w, mem, inn, c⟩ (startP ⟨w, mem, inn, c⟩) fuel.toNat inp).regs), .dat (.seq .terms (o4 ⟨w, mem, inn, c⟩ (startP ⟨w, mem, inn, c⟩) fuel.toNat inp).mem), .dat (.seq .ints (o4 ⟨w, mem, inn, c⟩ (startP ⟨w, mem, inn, c⟩) fuel.toNat inp).stack), .dat (.i (o4 ⟨w, mem, inn, c⟩ (startP ⟨w, mem, inn, c⟩) fuel.toNat inp).inn), .dat (.seq .terms (o4 ⟨w, mem, inn, c⟩ (startP ⟨w, mem, inn, c⟩) fuel.toNat inp).out), .dat (.i (o4 ⟨w, mem, inn, c⟩ (startP ⟨w, mem, inn, c⟩) fuel.toNat inp).code), .dat (.i (o4 ⟨w, mem, inn, c⟩ (startP ⟨w, mem, inn, c⟩) fuel.toNat inp).steps), .dat (.seq .terms (o4 ⟨w, mem, inn, c⟩ (startP ⟨w, mem, inn, c⟩) fuel.toNat inp).cond), .dat (.seq .ints (o4 ⟨w, mem, inn, c⟩ (startP ⟨w, mem, inn, c⟩) fuel.toNat inp).turns)]), (8, .row 3 .ints (o6 ⟨w, mem, inn, c⟩ (startP ⟨w, mem, inn, c⟩) inp fuel.toNat k) false)]) (Exists.intro (fun ⟨k, hk⟩ => inp.length - k) (Exists.intro ⟨0, Nat.zero_le _⟩ (And.intro (SubP.sub (σ := [(3, some 3), (7, some 7), (8, some 27000)]) ⟨⟨rfl, rfl, rfl⟩, ⟨o0 ?_, o0 ?_, ⟨rfl, rfl⟩, ⟨rfl, rfl⟩, rfl, o0 ?_, o0 ?_, trivial⟩, ⟨⟨j0 ?_, j0 ?_, j0 ?_, j0 ?_, trivial⟩, ⟨j0 ?_, j0 ?_, j0 ?_, j0 ?_, j0 ?_, j0 ?_, j0 ?_, j0 ?_, j0 ?_, j0 ?_, trivial⟩, ⟨⟨rfl, rfl⟩, ?_⟩, trivial⟩⟩) (fun ⟨k, hk⟩ => ?_))))); rotate_right; conv => whnf) | (refine Exists.intro (⟨k + 1, ?_⟩ : {k : Nat // k ≤ inp.length}) (And.intro ?_ (SubP.sub (σ := [(3, some 3), (7, some 7), (8, some 8)]) ⟨⟨rfl, rfl, rfl⟩, ⟨o0 ?_, o0 ?_, ⟨rfl, rfl⟩, ⟨rfl, rfl⟩, rfl, o0 ?_, o0 ?_, trivial⟩, ⟨⟨j0 ?_, j0 ?_, j0 ?_, j0 ?_, trivial⟩, ⟨j0 ?_, j0 ?_, j0 ?_, j0 ?_, j0 ?_, j0 ?_, j0 ?_, j0 ?_, j0 ?_, j0 ?_, trivial⟩, ⟨⟨rfl, rfl⟩, ?_⟩, trivial⟩⟩))) | ((with_reducible first | refine n0 (g := 32) ?_ | show Exists _); refine ⟨_, qbb .., rfl, ?_⟩; rotate_right; conv => whnf) | ((with_reducible first | refine n0 (g := 33) ?_ | show Exists _); refine ⟨_, qa3 .., rfl, ?_⟩; rotate_right; conv => whnf) | ((with_reducible first | refine n0 (g := 34) ?_ | show Exists _); refine ⟨_, qay (hi := ?_) (hf := ?_) (hf2 := ?_) .., rfl, ?_⟩; rotate_right; conv => whnf) | ((with_reducible refine a6 (g := 34) ?_); refine ⟨_, _, qhg (hi := ?_) (hf := ?_) (hf2 := ?_) .., zV ?_⟩; rotate_right; conv => whnf) | ((with_reducible refine o8 (g := 35) ?_); refine ⟨_, _, oK (h1 := ?_) .., rfl, zV ?_⟩; rotate_right; conv => whnf) | ((with_reducible first | refine n0 (g := 36) ?_ | show Exists _); refine ⟨_, qhp .., rfl, ?_⟩; rotate_right; conv => whnf) | (intro h; conv => whnf))
  all_goals repeat clear hK K1
  all_goals (try simp only [Int.toNat_natCast, shO_set] at *)
  all_goals (have hin := tB hi; have hm := g6 hin.1; have hil := hin.2.len; dsimp only at hm hil)
  all_goals first
    | ((with_reducible show Nat); skip)
    | (exfalso; exact absurd (show (n : Int) ≤ inp.getD k K.ints.dflt from hn.lt) asmR)
    | exact True.intro
    | (with_reducible assumption)
    | ((with_reducible show n6 _ _ = true); exact hn.inp)
    | ((with_reducible show ShN _ _ _ _ _); first
        | exact sn_0 hi asmR
        | exact hn.s (bI fun q => absurd q.1 asmR)
        | exact hn.s (bI fun q => absurd q.2.2 asmR)
        | exact hn.s (bI fun q => absurd (congrArg (Nat.cast : Nat → Int) q.2.1) asmR))
    | exact (inP_iff.1 hf).1
    | exact (inP_iff.1 hf).2
    | ((with_reducible show (_ : Int) ≤ _); omega)
    | ((with_reducible show (_ : Int) < _); first | omega | (rw [hn.len]; omega))
    | ((with_reducible show (_ : Nat) ≤ _); omega)
    | ((with_reducible show (_ : Nat) < _); first | ((try dsimp only); omega) | (have q := hn.le.le; (try dsimp only); omega) | (rw [hn.len]; omega))
    | (refine congrArg (Dat.int .i64) ?_; rw [wrap_id omG omG]; rfl)
    | (refine congrArg (Dat.int .i64) ?_; have q := hn.small; rw [wrap_id omG omG]; rfl)
    | exact congrArg (Sigma.mk K.ints) (hn.hit (lM.2 ⟨by with_reducible assumption, Int.ofNat_inj.1 asmR, by with_reducible assumption⟩))
    | exact rfl
    | (obtain rfl : k = inp.length := by omega
       exact rfl)
    | skip
end Vg
