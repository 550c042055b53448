/- Paths: where a path starts, and the path of some turns. Condition: the program is in order, the turns are 0 or 1. -/
import Derived.Test.YtjlffejifadkiaaGreatDoorPathL
namespace Vg
open Go Go.Proofs
set_option maxRecDepth 100000
set_option maxHeartbeats 40000000
def startP (p : V.Prog) : V.Path := ⟨0, List.replicate 4 (cT p.w 0), List.replicate p.mem.toNat (cT p.w 0), [], 0, [], 0, 0, [], []⟩
theorem qlm {t : V.Term} (h : okT t = true) : ∀ n, okTs (List.replicate n t) = true
  | 0 => by rw [List.replicate_zero, okTs]
  | n + 1 => by rw [List.replicate_succ, okTs, h, qlm h n]; rfl
theorem PI_start {p : V.Prog} (h : qbz p = true) : PI p (startP p) := by
  have hz := qot (zero_word (progP_w h))
  have hM := qa8 h
  refine ⟨h, Int.le_refl _, ?_, rfl, qlm hz 4, ?_, qlm hz _, Nat.zero_le _, (fun x hx => by cases hx), Int.le_refl _, hM.2.2.2.1, Nat.zero_le _, ?_, Int.le_refl _, (by show (0 : Int) ≤ 400; decide), Nat.zero_le _, ?_, Nat.zero_le _⟩
  · show (0 : Int) ≤ _; omega
  · show ((List.replicate p.mem.toNat (cT p.w 0)).length : Int) = _; rw [List.length_replicate]; omega
  · show okTs [] = true; rw [okTs]
  · show okTs [] = true; rw [okTs]
theorem rep_set {k n : Nat} {z t : V.Term} (h : (k : Int) < n) : (List.replicate k t ++ List.replicate (n - k) z).set (k : Int).toNat t = List.replicate (k + 1) t ++ List.replicate (n - (k + 1)) z := by
  have e : n - k = (n - (k + 1)) + 1 := by omega
  rw [Int.toNat_natCast, List.set_append_right _ _ (by simp), List.length_replicate, Nat.sub_self, e, List.replicate_succ (n := n - (k + 1)), List.set_cons_zero, List.replicate_succ' (n := k), List.append_assoc]
  rfl
theorem qo3 (w mem inn : Int) (code : List V.Ins) (hp : qbz ⟨w, mem, inn, code⟩ = true) : CallsV Tryz.prog 66 [.agg [.dat (.i w), .dat (.i mem), .dat (.i inn), .dat (.seq .inss code)]] (datPt (startP ⟨w, mem, inn, code⟩)) := by
  refine oV Tryz.func66 ⟨?_⟩
  intro K1 hK
  (conv => whnf)
  repeat' (first | (with_reducible exact rfl) | refine stD ⟨?_⟩ | ((with_reducible show WEach _ _); refine qag rfl ?_ ?_; conv => whnf) | refine st0 ⟨?_⟩ | ((with_reducible refine SplS.mk (fun h => ?_) (fun h => ?_)) <;> first | exact ctM | ((fail_if_success (have _x : @Eq Bool _ _ := h)); subst h; conv => whnf) | (conv => whnf)) | refine stB ⟨?_⟩ ⟨?_⟩ | ((with_reducible show Exists _); refine Exists.intro _ (And.intro (i_ConstTerm (h := ?_) ..) (And.intro rfl ?_)); rotate_right; conv => whnf) | (intro h; conv => whnf))
  subst hK
  (conv => whnf)
  intro K1 hK
  refine awp_dw rfl ?_
  (conv => whnf)
  simp only [List.nil_append, List.cons_append]
  refine (fun (key : K1 AX.normal ?S) => ?main) ?rest
  case main =>
    repeat' (first | (with_reducible exact rfl) | refine stD ⟨?_⟩ | ((with_reducible show WEach _ _); refine qag rfl ?_ ?_; conv => whnf) | refine st0 ⟨?_⟩ | ((with_reducible refine SplS.mk (fun h => ?_) (fun h => ?_)) <;> first | exact ctM | ((fail_if_success (have _x : @Eq Bool _ _ := h)); subst h; conv => whnf) | (conv => whnf)) | refine stB ⟨?_⟩ ⟨?_⟩ | ((with_reducible show Exists _); refine Exists.intro _ (And.intro (i_ConstTerm (h := ?_) ..) (And.intro rfl ?_)); rotate_right; conv => whnf) | (intro h; conv => whnf))
    all_goals first | exact key | (have hM := qa8 hp; dsimp only at hM; (with_reducible show (_ : Int) ≤ _); first | omega | (show mem * 64 ≤ _; omega) | (show mem ≤ (((2 ^ 63 - 1 : Nat)) : Int); omega) | (show (4 : Int) * 64 ≤ _; omega) | (show (4 : Int) ≤ (((2 ^ 63 - 1 : Nat)) : Int); omega)) | (refine st_eq key (fun j => ?_) (fun j => ?_) <;> (by_cases e3 : j = 3; (subst e3; exact rfl); by_cases e6 : j = 6; (subst e6; exact rfl); by_cases e9 : j = 9; (subst e9; exact rfl); by_cases e10 : j = 10; (subst e10; exact rfl); simp only [updT_ne, updB_ne, killB_ne, killT_at, ne_eq, e3, e6, e9, e10, not_false_eq_true]; try simp only [kill_comm 6 3, kill_comm 9 3, kill_comm 9 6, okill_comm 6 3, okill_comm 9 3, okill_comm 9 6])) | skip
  repeat' (first | ((with_reducible refine fun (K1 : KT) hK => ?_); refine stW ⟨?_⟩) | ((with_reducible show K1 _ _); subst hK; conv => whnf) | (with_reducible exact rfl) | refine stD ⟨?_⟩ | ((with_reducible show WEach _ _); refine qag rfl ?_ ?_; conv => whnf) | refine st0 ⟨?_⟩ | ((with_reducible refine SplS.mk (fun h => ?_) (fun h => ?_)) <;> first | exact ctM | ((fail_if_success (have _x : @Eq Bool _ _ := h)); subst h; conv => whnf) | (conv => whnf)) | refine stB ⟨?_⟩ ⟨?_⟩ | (refine Exists.intro ({k : Nat // (k : Int) ≤ mem}) (Exists.intro (fun ⟨k, hk⟩ => mkS Tryz.f66.ntmps [(1, .ptr 1 0), (2, .ptr 2 0), (3, .ptr 3 0), (27, .dat (.i mem)), (28, .dat (.i k))] [(1, .box [.dat (.i w), .dat (.i mem), .dat (.i inn), .dat (.seq .inss code)]), (2, .box [.dat (.i 0), .nils, .nils, .nils, .dat (.i 0), .nils, .dat (.i 0), .dat (.i 0), .nils, .nils]), (3, .box [.dat (.i 0), .row 6, .row 9, .nils, .dat (.i 0), .nils, .dat (.i 0), .dat (.i 0), .nils, .nils]), (6, .row 108 .terms (List.replicate 4 (cT w 0)) false), (9, .row 108 .terms (List.replicate k (cT w 0) ++ List.replicate (mem.toNat - k) zT) false)]) (Exists.intro (fun ⟨k, hk⟩ => mem.toNat - k) (Exists.intro ⟨0, ?_⟩ (And.intro (SubP.sub (σ := [(1, some 1), (2, some 2), (3, some 3), (6, some 6), (9, some 9)]) ⟨⟨rfl, rfl, rfl⟩, ⟨⟨rfl, rfl⟩, ⟨rfl, rfl⟩, ⟨rfl, rfl⟩, (qab ?_), (qab ?_), trivial⟩, ⟨⟨(qaa ?_), (qaa ?_), (qaa ?_), (qaa ?_), trivial⟩, ⟨(qaa ?_), trivial, trivial, trivial, (qaa ?_), trivial, (qaa ?_), (qaa ?_), trivial, trivial, trivial⟩, ⟨(qaa ?_), rfl, rfl, trivial, (qaa ?_), trivial, (qaa ?_), (qaa ?_), trivial, trivial, trivial⟩, ⟨⟨rfl, rfl⟩, ?_⟩, ⟨⟨rfl, rfl⟩, ?_⟩, trivial⟩⟩) (fun ⟨k, hk⟩ => ?_))))); rotate_right; conv => whnf) | (refine Exists.intro (⟨k + 1, ?_⟩ : {k : Nat // (k : Int) ≤ mem}) (And.intro ?_ (SubP.sub (σ := [(1, some 1), (2, some 2), (3, some 3), (6, some 6), (9, some 9)]) ⟨⟨rfl, rfl, rfl⟩, ⟨⟨rfl, rfl⟩, ⟨rfl, rfl⟩, ⟨rfl, rfl⟩, (qab ?_), (qab ?_), trivial⟩, ⟨⟨(qaa ?_), (qaa ?_), (qaa ?_), (qaa ?_), trivial⟩, ⟨(qaa ?_), trivial, trivial, trivial, (qaa ?_), trivial, (qaa ?_), (qaa ?_), trivial, trivial, trivial⟩, ⟨(qaa ?_), rfl, rfl, trivial, (qaa ?_), trivial, (qaa ?_), (qaa ?_), trivial, trivial, trivial⟩, ⟨⟨rfl, rfl⟩, ?_⟩, ⟨⟨rfl, rfl⟩, ?_⟩, trivial⟩⟩))) | (refine Exists.intro ({k : Nat // k ≤ 4}) (Exists.intro (fun ⟨k, hk⟩ => mkS Tryz.f66.ntmps [(1, .ptr 1 0), (2, .ptr 2 0), (3, .ptr 3 0), (13, .dat (.i 4)), (14, .dat (.i k))] [(1, .box [.dat (.i w), .dat (.i mem), .dat (.i inn), .dat (.seq .inss code)]), (2, .box [.dat (.i 0), .nils, .nils, .nils, .dat (.i 0), .nils, .dat (.i 0), .dat (.i 0), .nils, .nils]), (3, .box [.dat (.i 0), .row 6, .row 9, .nils, .dat (.i 0), .nils, .dat (.i 0), .dat (.i 0), .nils, .nils]), (6, .row 108 .terms (List.replicate k (cT w 0) ++ List.replicate (4 - k) zT) false), (9, .row 108 .terms (List.replicate mem.toNat zT) false)]) (Exists.intro (fun ⟨k, hk⟩ => 4 - k) (Exists.intro ⟨0, Nat.zero_le _⟩ (And.intro (SubP.sub (σ := [(1, some 1), (2, some 2), (3, some 3), (6, some 6), (9, some 9)]) ⟨⟨rfl, rfl, rfl⟩, ⟨⟨rfl, rfl⟩, ⟨rfl, rfl⟩, ⟨rfl, rfl⟩, (qab ?_), (qab ?_), trivial⟩, ⟨⟨(qaa ?_), (qaa ?_), (qaa ?_), (qaa ?_), trivial⟩, ⟨(qaa ?_), trivial, trivial, trivial, (qaa ?_), trivial, (qaa ?_), (qaa ?_), trivial, trivial, trivial⟩, ⟨(qaa ?_), rfl, rfl, trivial, (qaa ?_), trivial, (qaa ?_), (qaa ?_), trivial, trivial, trivial⟩, ⟨⟨rfl, rfl⟩, ?_⟩, ⟨⟨rfl, rfl⟩, ?_⟩, trivial⟩⟩) (fun ⟨k, hk⟩ => ?_))))); rotate_right; conv => whnf) | (refine Exists.intro (⟨k + 1, ?_⟩ : {k : Nat // k ≤ 4}) (And.intro ?_ (SubP.sub (σ := [(1, some 1), (2, some 2), (3, some 3), (6, some 6), (9, some 9)]) ⟨⟨rfl, rfl, rfl⟩, ⟨⟨rfl, rfl⟩, ⟨rfl, rfl⟩, ⟨rfl, rfl⟩, (qab ?_), (qab ?_), trivial⟩, ⟨⟨(qaa ?_), (qaa ?_), (qaa ?_), (qaa ?_), trivial⟩, ⟨(qaa ?_), trivial, trivial, trivial, (qaa ?_), trivial, (qaa ?_), (qaa ?_), trivial, trivial, trivial⟩, ⟨(qaa ?_), rfl, rfl, trivial, (qaa ?_), trivial, (qaa ?_), (qaa ?_), trivial, trivial, trivial⟩, ⟨⟨rfl, rfl⟩, ?_⟩, ⟨⟨rfl, rfl⟩, ?_⟩, trivial⟩⟩))) | ((with_reducible show Exists _); refine Exists.intro _ (And.intro (i_ConstTerm (h := ?_) ..) (And.intro rfl ?_)); rotate_right; conv => whnf) | (intro h; conv => whnf))
  all_goals repeat clear hK K1
  all_goals (have hM := qa8 hp; dsimp only at hM)
  all_goals first | exact True.intro | ((with_reducible show wordP _ _ = true); exact zero_word (progP_w hp)) | ((with_reducible show frzC _ _ _); first | exact rfl | (have e4 : mem.toNat = k := omG; show Dat.seq K.terms (List.replicate mem.toNat (cT w 0)) = Dat.seq K.terms (List.replicate k (cT w 0) ++ List.replicate (mem.toNat - k) zT); rw [e4, Nat.sub_self, List.replicate_zero, List.append_nil])) | ((with_reducible show _ = _); first | exact congrArg (Sigma.mk K.terms) (rep_set (n := 4) omG).symm | exact congrArg (Sigma.mk K.terms) (rep_set (n := mem.toNat) omG).symm | (refine congrArg (Dat.int .i64) ?_; rw [qac omG omG]; rfl) | exact rfl | (refine congrArg Dat.i ?_; simp only [List.length_replicate]; omega) | (refine congrArg (Sigma.mk K.terms) ?_; have e4 : k = 4 := omG; subst e4; simp only [Nat.sub_self, List.replicate_zero, List.append_nil]) | (refine congrArg (Sigma.mk K.terms) ?_; simp only [Nat.sub_self, List.replicate_zero, List.append_nil, Nat.sub_zero, List.nil_append]) | (refine congrArg (Dat.seq K.terms) ?_; have e4 : mem.toNat = k := omG; show List.replicate mem.toNat _ = _; rw [e4, Nat.sub_self, List.replicate_zero, List.append_nil])) | ((with_reducible show (_ : Int) ≤ _); first | omega | (show mem * 64 ≤ _; omega) | (show mem ≤ (((2 ^ 63 - 1 : Nat)) : Int); omega) | (show (4 : Int) * 64 ≤ _; omega) | (show (4 : Int) ≤ (((2 ^ 63 - 1 : Nat)) : Int); omega)) | ((with_reducible show (_ : Int) < _); first | omega | (simp only [List.length_append, List.length_replicate]; omega)) | ((with_reducible show (_ : Nat) < _); first | ((try dsimp only); omega) | (simp only [List.length_append, List.length_replicate]; omega)) | ((with_reducible show _ ≤ _); omega) | skip
/-! ### the path of some turns -/
noncomputable def pwF (p : V.Prog) (tr : List Int) : Nat → V.Path → Nat → V.Path × Nat
  | 0, s, u => (s, u)
  | f + 1, s, u =>
    if (qa7 p s).length = 0 ∨ ((qa7 p s).length = 2 ∧ u = tr.length) then (s, u)
    else if (qa7 p s).length = 1 then pwF p tr f ((qa7 p s).getD 0 K.paths.dflt) u
    else pwF p tr f ((qa7 p s).getD (1 - tr.getD u K.ints.dflt).toNat K.paths.dflt) (u + 1)
def qbx (l : List Int) : Bool := l.all fun n => decide (n = 0 ∨ n = 1)
theorem turns_at {l : List Int} {u : Nat} (h : qbx l = true) (hu : u < l.length) : l.getD u K.ints.dflt = 0 ∨ l.getD u K.ints.dflt = 1 := by
  rw [List.getD_eq_getElem?_getD, List.getElem?_eq_getElem hu]
  exact of_decide_eq_true (List.all_eq_true.1 h _ (List.getElem_mem hu))
theorem divide_len (p : V.Prog) (s : V.Path) (i : V.Ins) : (qb0 p s i).length ≤ 2 := by
  unfold qb0
  repeat' split
  all_goals first | exact (by decide : (1 : Nat) ≤ 2) | exact (by decide : (2 : Nat) ≤ 2)
theorem qe5 (p : V.Prog) (s : V.Path) : (qa7 p s).length ≤ 2 := by
  unfold qa7
  repeat' split
  · exact (by decide : (0 : Nat) ≤ 2)
  · exact (by decide : (1 : Nat) ≤ 2)
  · exact (by decide : (1 : Nat) ≤ 2)
  · exact divide_len _ _ _
theorem path_eta (s : V.Path) : (⟨s.pc, s.regs, s.mem, s.stack, s.inn, s.out, s.code, s.steps, s.cond, s.turns⟩ : V.Path) = s := rfl
structure PwI (p : V.Prog) (tr : List Int) (fuel : Int) (q : Nat × V.Path × Nat) : Prop where
  kf : (q.1 : Int) ≤ fuel
  hs : PI p q.2.1
  ul : q.2.2 ≤ tr.length
  uk : q.2.2 ≤ q.1
  eq : pwF p tr fuel.toNat (startP p) 0 = pwF p tr (fuel.toNat - q.1) q.2.1 q.2.2
section
variable {p : V.Prog} {tr : List Int} {fuel : Int} {k u : Nat} {s : V.Path}
theorem pw_0 (hp : qbz p = true) (hf : 0 ≤ fuel) : PwI p tr fuel (0, startP p, 0) := ⟨hf, PI_start hp, Nat.zero_le _, Nat.le_refl _, rfl⟩
theorem pw_end (h : PwI p tr fuel (k, s, u)) (hk : ¬ (k : Int) < fuel) : pwF p tr fuel.toNat (startP p) 0 = (s, u) := by
  have h1 := h.kf
  have h2 := h.eq
  dsimp only at h1 h2
  rw [h2, show fuel.toNat - k = 0 by omega]
  rfl
theorem pw_s (h : PwI p tr fuel (k, s, u)) (hk : (k : Int) < fuel) : pwF p tr fuel.toNat (startP p) 0 =
    if (qa7 p s).length = 0 ∨ ((qa7 p s).length = 2 ∧ u = tr.length) then (s, u)
    else if (qa7 p s).length = 1 then pwF p tr (fuel.toNat - (k + 1)) ((qa7 p s).getD 0 K.paths.dflt) u
    else pwF p tr (fuel.toNat - (k + 1)) ((qa7 p s).getD (1 - tr.getD u K.ints.dflt).toNat K.paths.dflt) (u + 1) := by
  have h2 := h.eq
  dsimp only at h2
  rw [h2, show fuel.toNat - k = (fuel.toNat - (k + 1)) + 1 by omega, pwF]
theorem pw_b1 (h : PwI p tr fuel (k, s, u)) (hk : (k : Int) < fuel) (h0 : ((qa7 p s).length : Int) = 0) : pwF p tr fuel.toNat (startP p) 0 = (s, u) := by
  rw [pw_s h hk, if_pos (.inl omG)]
theorem pw_b2 (h : PwI p tr fuel (k, s, u)) (hk : (k : Int) < fuel) (h2 : ((qa7 p s).length : Int) = 2) (hu : (u : Int) = tr.length) : pwF p tr fuel.toNat (startP p) 0 = (s, u) := by
  rw [pw_s h hk, if_pos (.inr ⟨by omega, by omega⟩)]
theorem getD_mem {l : List V.Path} {j : Nat} (h : j < l.length) : l.getD j K.paths.dflt ∈ l := by
  rw [List.getD_eq_getElem?_getD, List.getElem?_eq_getElem h]
  exact List.getElem_mem h
theorem pw_1 (h : PwI p tr fuel (k, s, u)) (hk : (k : Int) < fuel) (h1 : ((qa7 p s).length : Int) = 1) : PwI p tr fuel (k + 1, (qa7 p s).getD (Int.toNat 0) K.paths.dflt, u) := by
  have h2 := h.uk
  dsimp only at h2
  refine ⟨by show ((k + 1 : Nat) : Int) ≤ fuel; omega, h.hs.step _ (getD_mem (by show 0 < (qa7 p s).length; omega)), h.ul, by show u ≤ k + 1; omega, ?_⟩
  rw [pw_s h hk, if_neg omG, if_pos omG]
  rfl
theorem pw_2 (h : PwI p tr fuel (k, s, u)) (ht : qbx tr = true) (hk : (k : Int) < fuel) (h0 : ¬ ((qa7 p s).length : Int) = 0) (h1 : ¬ ((qa7 p s).length : Int) = 1) (hu : ¬ (u : Int) = tr.length) :
    PwI p tr fuel (k + 1, (qa7 p s).getD (1 - tr.getD (u : Int).toNat K.ints.dflt).toNat K.paths.dflt, u + 1) := by
  have h2 := h.uk
  have h3 := h.ul
  have h4 := qe5 p s
  dsimp only at h2 h3
  have h5 := turns_at ht (show u < tr.length by omega)
  rw [Int.toNat_natCast]
  refine ⟨by show ((k + 1 : Nat) : Int) ≤ fuel; omega, h.hs.step _ (getD_mem (by show _ < (qa7 p s).length; omega)), by show u + 1 ≤ _; omega, by show u + 1 ≤ k + 1; omega, ?_⟩
  rw [pw_s h hk, if_neg omG, if_neg omG]
theorem pw_in (h : PwI p tr fuel (k, s, u)) (ht : qbx tr = true) (h0 : ¬ ((qa7 p s).length : Int) = 0) (h1 : ¬ ((qa7 p s).length : Int) = 1) (hu : ¬ (u : Int) = tr.length) :
    u < tr.length ∧ (tr.getD (u : Int).toNat K.ints.dflt = 0 ∨ tr.getD (u : Int).toNat K.ints.dflt = 1) ∧ (qa7 p s).length = 2 := by
  have h3 := h.ul
  have h4 := qe5 p s
  dsimp only at h3
  have hl : u < tr.length := by omega
  exact ⟨hl, by rw [Int.toNat_natCast]; exact turns_at ht hl, by omega⟩
end
theorem i_turnsOk (l : List Int) : CallsV Tryz.prog 92 [.dat (.seq .ints l)] (.dat (.bool (qbx l))) := by
  refine oV Tryz.func92 ⟨?_⟩
  repeat' (first | ((with_reducible refine fun (K1 : KT) hK => ?_); refine stW ⟨?_⟩) | ((with_reducible show K1 _ _); subst hK; conv => whnf) | (with_reducible exact rfl) | refine st0 ⟨?_⟩ | ((with_reducible refine SplS.mk (fun h => ?_) (fun h => ?_)) <;> first | exact ctM | (subst h; conv => whnf) | (conv => whnf)) | refine stB ⟨?_⟩ ⟨?_⟩ | (refine Exists.intro ({k : Nat // (l.take k).all (fun n => decide (n = 0 ∨ n = 1)) = true}) (Exists.intro (fun ⟨k, hall⟩ => mkS Tryz.f92.ntmps [(5, .dat (.seq .ints l)), (6, .dat (.i l.length)), (7, .dat (.i k))] []) (Exists.intro (fun ⟨k, hall⟩ => l.length - k) (Exists.intro ⟨0, rfl⟩ (And.intro (SubP.sub (σ := []) ⟨⟨rfl, rfl, rfl⟩, ⟨(qab ?_), (qab ?_), (qab ?_), trivial⟩, trivial⟩) (fun ⟨k, hall⟩ => ?_))))); rotate_right; conv => whnf) | (refine Exists.intro (⟨k + 1, ?_⟩ : {k : Nat // (l.take k).all (fun n => decide (n = 0 ∨ n = 1)) = true}) (And.intro ?_ (SubP.sub (σ := []) ⟨⟨rfl, rfl, rfl⟩, ⟨(qab ?_), (qab ?_), (qab ?_), trivial⟩, trivial⟩))) | (intro h; conv => whnf))
  all_goals repeat clear hK K1
  all_goals first | ((with_reducible show (_ : Int) ≤ _); omega) | ((with_reducible show (_ : Int) < _); with_reducible assumption) | ((with_reducible show (_ : Nat) < _); (dsimp only; omega)) | exact congrArg (Dat.int .i64) (qan asmR asmR).symm | exact rfl | (simp only [Int.toNat_natCast] at *; rw [qc2 K.ints.dflt asmR, hall]; exact decide_eq_true omG) | (simp only [Int.toNat_natCast] at *; refine congrArg Dat.bool ?_; unfold qbx; exact qg2 (d := K.ints.dflt) asmR (decide_eq_false omG)) | (refine congrArg Dat.bool ?_; unfold qbx; exact qdh asmR hall) | skip
theorem qku (w mem inn : Int) (code : List V.Ins) (tr : List Int) (fuel : Int) (hp : qbz ⟨w, mem, inn, code⟩ = true) (ht : qbx tr = true) (hf : 0 ≤ fuel) (hf2 : fuel ≤ 400) : CallsV Tryz.prog 93 [.agg [.dat (.i w), .dat (.i mem), .dat (.i inn), .dat (.seq .inss code)], .dat (.seq .ints tr), .dat (.i fuel)] (.tup [datPt (pwF ⟨w, mem, inn, code⟩ tr fuel.toNat (startP ⟨w, mem, inn, code⟩) 0).1, .dat (.bool (decide ((pwF ⟨w, mem, inn, code⟩ tr fuel.toNat (startP ⟨w, mem, inn, code⟩) 0).2 = tr.length)))]) := by
  refine oV Tryz.func93 ⟨?_⟩
  repeat' (first | ((with_reducible refine fun (K1 : KT) hK => ?_); refine stW ⟨?_⟩) | ((with_reducible show K1 _ _); subst hK; conv => whnf) | (with_reducible exact rfl) | refine st0 ⟨?_⟩ | ((with_reducible refine SplS.mk (fun h => ?_) (fun h => ?_)) <;> first | exact ctM | (subst h; conv => whnf) | (conv => whnf)) | refine stB ⟨?_⟩ ⟨?_⟩ | (refine Exists.intro ({q : Nat × V.Path × Nat // PwI ⟨w, mem, inn, code⟩ tr fuel q}) (Exists.intro (fun ⟨(k, s, u), hq⟩ => mkS Tryz.f93.ntmps [(1, .dat (.seq .ints tr)), (2, .dat (.i fuel)), (3, .ptr 3 0), (6, .ptr 6 0), (8, .ptr 8 0), (9, .dat (.i u)), (10, .dat (.i k))] [(3, .box [.dat (.i w), .dat (.i mem), .dat (.i inn), .dat (.seq .inss code)]), (6, .box [.dat (.i 0), .nils, .nils, .nils, .dat (.i 0), .nils, .dat (.i 0), .dat (.i 0), .nils, .nils]), (8, .box [.dat (.i s.pc), .dat (.seq .terms s.regs), .dat (.seq .terms s.mem), .dat (.seq .ints s.stack), .dat (.i s.inn), .dat (.seq .terms s.out), .dat (.i s.code), .dat (.i s.steps), .dat (.seq .terms s.cond), .dat (.seq .ints s.turns)])]) (Exists.intro (fun ⟨(k, s, u), hq⟩ => fuel.toNat - k) (Exists.intro ⟨(0, startP ⟨w, mem, inn, code⟩, 0), ?_⟩ (And.intro (SubP.sub (σ := [(3, some 3), (6, some 6), (8, some 8)]) ⟨⟨rfl, rfl, rfl⟩, ⟨(qab ?_), (qab ?_), ⟨rfl, rfl⟩, ⟨rfl, rfl⟩, ⟨rfl, rfl⟩, (qab ?_), (qab ?_), trivial⟩, ⟨⟨(qaa ?_), (qaa ?_), (qaa ?_), (qaa ?_), trivial⟩, ⟨(qaa ?_), trivial, trivial, trivial, (qaa ?_), trivial, (qaa ?_), (qaa ?_), trivial, trivial, trivial⟩, ⟨(qaa ?_), (qaa ?_), (qaa ?_), (qaa ?_), (qaa ?_), (qaa ?_), (qaa ?_), (qaa ?_), (qaa ?_), (qaa ?_), trivial⟩, trivial⟩⟩) (fun ⟨(k, s, u), hq⟩ => ?_))))); rotate_right; conv => whnf) | (refine Exists.intro (⟨(k + 1, ?_, ?_), ?_⟩ : {q : Nat × V.Path × Nat // PwI ⟨w, mem, inn, code⟩ tr fuel q}) (And.intro ?_ (SubP.sub (σ := [(3, some 3), (6, some 6), (8, some 8)]) ⟨⟨rfl, rfl, rfl⟩, ⟨(qab ?_), (qab ?_), ⟨rfl, rfl⟩, ⟨rfl, rfl⟩, ⟨rfl, rfl⟩, (qab ?_), (qab ?_), trivial⟩, ⟨⟨(qaa ?_), (qaa ?_), (qaa ?_), (qaa ?_), trivial⟩, ⟨(qaa ?_), trivial, trivial, trivial, (qaa ?_), trivial, (qaa ?_), (qaa ?_), trivial, trivial, trivial⟩, ⟨(qaa ?_), (qaa ?_), (qaa ?_), (qaa ?_), (qaa ?_), (qaa ?_), (qaa ?_), (qaa ?_), (qaa ?_), (qaa ?_), trivial⟩, trivial⟩⟩))) | ((with_reducible first | refine pcI (g := 66) ?_ | show Exists _); refine ⟨_, qo3 (hp := ?_) .., rfl, ?_⟩; rotate_right; conv => whnf) | ((with_reducible first | refine pcI (g := 67) ?_ | show Exists _); refine ⟨_, i_stepOn (hP := ?_) .., rfl, ?_⟩; rotate_right; conv => whnf) | (intro h; conv => whnf))
  all_goals repeat clear hK K1
  all_goals (try simp only [path_eta] at *)
  all_goals first | ((with_reducible show Nat); skip) | exact True.intro | (with_reducible exact pw_0 hp hf) | (with_reducible exact hp) | ((with_reducible show PI _ _); exact hq.hs) | ((with_reducible show PwI _ _ _ _); first | (exfalso; have := qe5 ⟨w, mem, inn, code⟩ s; omega) | exact pw_1 hq (by assumption) (by assumption) | (have q := pw_in hq ht (by assumption) (by assumption) (by assumption); have e : IntKind.i64.wrap (1 - tr.getD (u : Int).toNat K.ints.dflt) = 1 - tr.getD (u : Int).toNat K.ints.dflt := qac omG omG; rw [e]; exact pw_2 hq ht (by assumption) (by assumption) (by assumption) (by assumption))) | (exfalso; have := qe5 ⟨w, mem, inn, code⟩ s; omega) | ((with_reducible show _ < _); ((try dsimp only); omega)) | ((with_reducible show (_ : Int) < _); first | omega | (have q := pw_in hq ht (by assumption) (by assumption) (by assumption); first | omega | (rw [qac omG omG]; omega))) | ((with_reducible show (_ : Int) ≤ _); first | omega | (have q := pw_in hq ht (by assumption) (by assumption) (by assumption); rw [qac omG omG]; omega)) | exact rfl | (have h1 := hq.uk; have h2 := hq.kf; dsimp only at h1 h2; refine congrArg (Dat.int .i64) ?_; rw [qac omG omG]; rfl) | (have e : pwF ⟨w, mem, inn, code⟩ tr fuel.toNat (startP ⟨w, mem, inn, code⟩) 0 = (s, u) := (by first | exact pw_end hq (by assumption) | exact pw_b1 hq (by assumption) (by assumption) | exact pw_b2 hq (by assumption) (by assumption) (by assumption)); rw [e]; first | exact fr10M rfl | (refine frB ?_; rw [Bool.eq_iff_iff]; simp only [decide_eq_true_eq, beq_iff_eq]; omega)) | skip
  all_goals exact u
end Vg
