/- Visits and candidates in plain words: total contracts; which facts are candidates. No condition. -/
import Derived.Test.YtnjkencoohaheaaVis
import Derived.Test.YtnjkencoohaheaaCand
import Derived.Test.YtnjkencoohaheaaFact
import Derived.Test.YtnjkencoohaheaaGive2
import Derived.Test.YtnjkencoohaheaaEqs
namespace Vg
open Go Go.Proofs
def vizOk (p : V.Prog) (inp : List Int) (fuel pc : Int) : Bool := inputsP p inp && (inP fuel 0 400 && inP pc 0 p.code.length)
theorem vizOk_of {p : V.Prog} {inp : List Int} {fuel pc : Int} (h : vizOk p inp fuel pc = true) : inputsP p inp = true ∧ inP fuel 0 400 = true ∧ inP pc 0 p.code.length = true := by simpa [vizOk] using h
set_option maxRecDepth 100000 in
theorem i_Viz0 (w mem inn : Int) (c : List V.Ins) (inp : List Int) (fuel pc : Int) (hx : vizOk ⟨w, mem, inn, c⟩ inp fuel pc = false) : CallsV Try.prog 20 [.agg [.dat (.i w), .dat (.i mem), .dat (.i inn), .dat (.seq .inss c)], .dat (.seq .ints inp), .dat (.i fuel), .dat (.i pc)] (.nils) := by
  refine CallsV.of_awp tauOk mixOk Try.func20 rfl rfl rfl ?_
  conv => whnf
  repeat' (first
    | ((with_reducible refine Alt.l ?_); conv => whnf)
    | ((with_reducible refine fun (K1 : AX → AState → Prop) hK => ?_); conv => whnf)
    | ((with_reducible show K1 _ _); subst hK; conv => whnf)
    | (with_reducible exact rfl)
    | ((with_reducible refine sp_T ?_); conv => whnf)
    | ((with_reducible refine sp_F ?_); conv => whnf)
    | ((with_reducible refine sp_T' ?_); conv => whnf)
    | ((with_reducible refine sp_F' ?_); conv => whnf)
    | ((with_reducible refine sp_dF ?_ ?_); decide; conv => whnf)
    | ((with_reducible refine sp_dT ?_ ?_); decide; conv => whnf)
    | ((with_reducible refine sp_d (fun h => ?_) (fun h => ?_)) <;> first | contradiction | (subst h; conv => whnf) | (conv => whnf))
    | ((with_reducible refine sp_d' (fun h => ?_) (fun h => ?_)) <;> first | contradiction | (subst h; conv => whnf) | (conv => whnf))
    | ((with_reducible refine sp_eF ?_ ?_); decide; conv => whnf)
    | ((with_reducible refine sp_eT ?_); conv => whnf)
    | ((with_reducible refine sp_e (fun h => ?_) (fun h => ?_)) <;> first | contradiction | (subst h; conv => whnf) | (conv => whnf))
    | ((with_reducible refine sp_e' (fun h => ?_) (fun h => ?_)) <;> first | contradiction | (subst h; conv => whnf) | (conv => whnf))
    | ((with_reducible refine sp_n (fun h => ?_) (fun h => ?_)) <;> first | contradiction | (subst h; conv => whnf) | (conv => whnf))
    | ((with_reducible refine sp_n' (fun h => ?_) (fun h => ?_)) <;> first | contradiction | (subst h; conv => whnf) | (conv => whnf))
    | ((with_reducible refine sp_nb (fun h => ?_) (fun h => ?_)) <;> first | (exact Bool.noConfusion (Eq.trans (Eq.symm h) (show _ = true by with_reducible assumption))) | (exact Bool.noConfusion (Eq.trans (Eq.symm (show _ = false by with_reducible assumption)) h)) | (conv => whnf))
    | ((with_reducible refine sp_nb' (fun h => ?_) (fun h => ?_)) <;> first | (exact Bool.noConfusion (Eq.trans (Eq.symm h) (show _ = true by with_reducible assumption))) | (exact Bool.noConfusion (Eq.trans (Eq.symm (show _ = false by with_reducible assumption)) h)) | (conv => whnf))
    | ((with_reducible refine sp_b (fun h => ?_) (fun h => ?_)) <;> first | (exact Bool.noConfusion (Eq.trans (Eq.symm h) (show _ = true by with_reducible assumption))) | (exact Bool.noConfusion (Eq.trans (Eq.symm (show _ = false by with_reducible assumption)) h)) | (conv => whnf))
    | ((with_reducible refine sp_b' (fun h => ?_) (fun h => ?_)) <;> first | (exact Bool.noConfusion (Eq.trans (Eq.symm h) (show _ = true by with_reducible assumption))) | (exact Bool.noConfusion (Eq.trans (Eq.symm (show _ = false by with_reducible assumption)) h)) | (conv => whnf))
    | (refine ⟨(rfl : nodupB _ = true), rfl, ?_⟩; conv => whnf)
    | (with_reducible refine bnd2 ?_ ?_)
    | (with_reducible refine bnd2' ?_ ?_)
    | (with_reducible refine bndN ?_ ?_)
    | ((with_reducible refine and_of ?_ ?_); conv => whnf)
    | ((with_reducible refine pcI (g := 74) ?_); refine ⟨_, i_InputsOk .., rfl, ?_⟩; rotate_right; conv => whnf)
    | ((with_reducible show Exists _); refine Exists.intro _ (And.intro (i_InputsOk ..) (And.intro rfl ?_)); rotate_right; conv => whnf)
    | ((with_reducible refine pcI (g := 67) ?_); refine ⟨_, i_fuelOk .., rfl, ?_⟩; rotate_right; conv => whnf)
    | ((with_reducible show Exists _); refine Exists.intro _ (And.intro (i_fuelOk ..) (And.intro rfl ?_)); rotate_right; conv => whnf)
    | ((with_reducible refine pcI (g := 75) ?_); refine ⟨_, i_isPlace .., rfl, ?_⟩; rotate_right; conv => whnf)
    | ((with_reducible show Exists _); refine Exists.intro _ (And.intro (i_isPlace ..) (And.intro rfl ?_)); rotate_right; conv => whnf)
    | ((with_reducible refine fcI (g := 26) ?_); refine ⟨_, _, i_NewState (hp := by assumption) .., rfl, fun res B hRB => ?_⟩; rotate_right; obtain ⟨rfl, rfl⟩ := hRB; conv => whnf)
    | ((with_reducible refine fcI (g := 76) ?_); refine ⟨_, _, i_copyState (h1 := ?_) (h2 := ?_) (h3 := ?_) (h4 := ?_) .., rfl, fun res B hRB => ?_⟩; rotate_right; obtain ⟨rfl, rfl⟩ := hRB; conv => whnf)
    | ((with_reducible refine gcI (g := 77) ?_); refine ⟨_, _, i_moves .., fun res B hRB => ?_⟩; rotate_right; obtain ⟨rfl, rfl⟩ := hRB; conv => whnf)
    | ((with_reducible refine gcI (g := 78) ?_); refine ⟨_, _, i_step (hp := ?_) (hM := ?_) (hin := ?_) (_hiw := ?_) .., fun res B hRB => ?_⟩; rotate_right; obtain ⟨rfl, rfl⟩ := hRB; conv => whnf)
    | ((with_reducible show awpOps _ _ _ _ _ _); conv => whnf)
    | (intro h; conv => whnf))
  all_goals (repeat (clear hK; clear K1))
  all_goals first | (with_reducible exact trivial) | (exfalso; simp only [vizOk, *, Bool.and_self] at hx; exact Bool.noConfusion hx) | skip
set_option maxRecDepth 100000 in
theorem s_Viz0 (w mem inn : Int) (c : List V.Ins) (inp : List Int) (fuel pc : Int) (hx : vizOk ⟨w, mem, inn, c⟩ inp fuel pc = false) : CallsV Try.prog 21 [.agg [.dat (.i w), .dat (.i mem), .dat (.i inn), .dat (.seq .inss c)], .dat (.seq .ints inp), .dat (.i fuel), .dat (.i pc)] (.nils) := by
  refine CallsV.of_awp tauOk mixOk Try.func21 rfl rfl rfl ?_
  conv => whnf
  repeat' (first
    | ((with_reducible refine Alt.l ?_); conv => whnf)
    | ((with_reducible refine fun (K1 : AX → AState → Prop) hK => ?_); conv => whnf)
    | ((with_reducible show K1 _ _); subst hK; conv => whnf)
    | (with_reducible exact rfl)
    | ((with_reducible refine sp_T ?_); conv => whnf)
    | ((with_reducible refine sp_F ?_); conv => whnf)
    | ((with_reducible refine sp_T' ?_); conv => whnf)
    | ((with_reducible refine sp_F' ?_); conv => whnf)
    | ((with_reducible refine sp_dF ?_ ?_); decide; conv => whnf)
    | ((with_reducible refine sp_dT ?_ ?_); decide; conv => whnf)
    | ((with_reducible refine sp_d (fun h => ?_) (fun h => ?_)) <;> first | contradiction | (subst h; conv => whnf) | (conv => whnf))
    | ((with_reducible refine sp_d' (fun h => ?_) (fun h => ?_)) <;> first | contradiction | (subst h; conv => whnf) | (conv => whnf))
    | ((with_reducible refine sp_eF ?_ ?_); decide; conv => whnf)
    | ((with_reducible refine sp_eT ?_); conv => whnf)
    | ((with_reducible refine sp_e (fun h => ?_) (fun h => ?_)) <;> first | contradiction | (subst h; conv => whnf) | (conv => whnf))
    | ((with_reducible refine sp_e' (fun h => ?_) (fun h => ?_)) <;> first | contradiction | (subst h; conv => whnf) | (conv => whnf))
    | ((with_reducible refine sp_n (fun h => ?_) (fun h => ?_)) <;> first | contradiction | (subst h; conv => whnf) | (conv => whnf))
    | ((with_reducible refine sp_n' (fun h => ?_) (fun h => ?_)) <;> first | contradiction | (subst h; conv => whnf) | (conv => whnf))
    | ((with_reducible refine sp_nb (fun h => ?_) (fun h => ?_)) <;> first | (exact Bool.noConfusion (Eq.trans (Eq.symm h) (show _ = true by with_reducible assumption))) | (exact Bool.noConfusion (Eq.trans (Eq.symm (show _ = false by with_reducible assumption)) h)) | (conv => whnf))
    | ((with_reducible refine sp_nb' (fun h => ?_) (fun h => ?_)) <;> first | (exact Bool.noConfusion (Eq.trans (Eq.symm h) (show _ = true by with_reducible assumption))) | (exact Bool.noConfusion (Eq.trans (Eq.symm (show _ = false by with_reducible assumption)) h)) | (conv => whnf))
    | ((with_reducible refine sp_b (fun h => ?_) (fun h => ?_)) <;> first | (exact Bool.noConfusion (Eq.trans (Eq.symm h) (show _ = true by with_reducible assumption))) | (exact Bool.noConfusion (Eq.trans (Eq.symm (show _ = false by with_reducible assumption)) h)) | (conv => whnf))
    | ((with_reducible refine sp_b' (fun h => ?_) (fun h => ?_)) <;> first | (exact Bool.noConfusion (Eq.trans (Eq.symm h) (show _ = true by with_reducible assumption))) | (exact Bool.noConfusion (Eq.trans (Eq.symm (show _ = false by with_reducible assumption)) h)) | (conv => whnf))
    | (refine ⟨(rfl : nodupB _ = true), rfl, ?_⟩; conv => whnf)
    | (with_reducible refine bnd2 ?_ ?_)
    | (with_reducible refine bnd2' ?_ ?_)
    | (with_reducible refine bndN ?_ ?_)
    | ((with_reducible refine and_of ?_ ?_); conv => whnf)
    | ((with_reducible refine pcI (g := 70) ?_); refine ⟨_, s_InputsOk .., rfl, ?_⟩; rotate_right; conv => whnf)
    | ((with_reducible show Exists _); refine Exists.intro _ (And.intro (s_InputsOk ..) (And.intro rfl ?_)); rotate_right; conv => whnf)
    | ((with_reducible refine pcI (g := 63) ?_); refine ⟨_, s_l01In .., rfl, ?_⟩; rotate_right; conv => whnf)
    | ((with_reducible show Exists _); refine Exists.intro _ (And.intro (s_l01In ..) (And.intro rfl ?_)); rotate_right; conv => whnf)
    | ((with_reducible refine fcI (g := 71) ?_); refine ⟨_, _, s_NewState (hp := by assumption) .., rfl, fun res B hRB => ?_⟩; rotate_right; obtain ⟨rfl, rfl⟩ := hRB; conv => whnf)
    | ((with_reducible refine fcI (g := 79) ?_); refine ⟨_, _, s_l05Copy (h1 := ?_) (h2 := ?_) (h3 := ?_) (h4 := ?_) .., rfl, fun res B hRB => ?_⟩; rotate_right; obtain ⟨rfl, rfl⟩ := hRB; conv => whnf)
    | ((with_reducible refine gcI (g := 72) ?_); refine ⟨_, _, s_l05Step (hp := ?_) (hM := ?_) (hin := ?_) (_hiw := ?_) .., fun res B hRB => ?_⟩; rotate_right; obtain ⟨rfl, rfl⟩ := hRB; conv => whnf)
    | ((with_reducible show awpOps _ _ _ _ _ _); conv => whnf)
    | (intro h; conv => whnf))
  all_goals (repeat (clear hK; clear K1))
  all_goals first | (with_reducible exact trivial) | (exfalso; simp only [vizOk, *, Bool.and_self] at hx; exact Bool.noConfusion hx) | skip
def visP (p : V.Prog) (inp : List Int) (fuel pc : Int) : List V.State := if vizOk p inp fuel pc then visTo p inp pc (fuel.toNat + 1) else []
theorem iv_VisitsOf (w mem inn : Int) (c : List V.Ins) (inp : List Int) (fuel pc : Int) : CallsV Try.prog 20 [.agg [.dat (.i w), .dat (.i mem), .dat (.i inn), .dat (.seq .inss c)], .dat (.seq .ints inp), .dat (.i fuel), .dat (.i pc)] (.dat (.seq .states (visP ⟨w, mem, inn, c⟩ inp fuel pc))) := by
  cases h : vizOk ⟨w, mem, inn, c⟩ inp fuel pc with
  | false => exact CallsF.toV (i_Viz0 (hx := h) ..) (fun res B hR => by obtain ⟨rfl, _⟩ := hR; show (visP _ _ _ _).length = 0; rw [visP, h]; rfl)
  | true =>
    obtain ⟨h1, h2, h3⟩ := vizOk_of h
    exact CallsF.toV (i_VisOk (hp := inp_p h1) (hi := h1) (hf := h2) (hq := h3) ..) (fun res B hR => by obtain ⟨rfl, rfl⟩ := hR; show Dat.seq _ _ = Dat.seq _ _; rw [visP, h]; rfl)
theorem sv_VisitsOf (w mem inn : Int) (c : List V.Ins) (inp : List Int) (fuel pc : Int) : CallsV Try.prog 21 [.agg [.dat (.i w), .dat (.i mem), .dat (.i inn), .dat (.seq .inss c)], .dat (.seq .ints inp), .dat (.i fuel), .dat (.i pc)] (.dat (.seq .states (visP ⟨w, mem, inn, c⟩ inp fuel pc))) := by
  cases h : vizOk ⟨w, mem, inn, c⟩ inp fuel pc with
  | false => exact CallsF.toV (s_Viz0 (hx := h) ..) (fun res B hR => by obtain ⟨rfl, _⟩ := hR; show (visP _ _ _ _).length = 0; rw [visP, h]; rfl)
  | true =>
    obtain ⟨h1, h2, h3⟩ := vizOk_of h
    exact CallsF.toV (s_VisOk (hp := inp_p h1) (hi := h1) (hf := h2) (hq := h3) ..) (fun res B hR => by obtain ⟨rfl, rfl⟩ := hR; show Dat.seq _ _ = Dat.seq _ _; rw [visP, h]; rfl)
def candP (p : V.Prog) (l : List V.State) : List V.Fact := if candOk p l then kTo p.w l 6 else []
theorem iv_Cand (w mem inn : Int) (c : List V.Ins) (l : List V.State) : CallsV Try.prog 23 [.agg [.dat (.i w), .dat (.i mem), .dat (.i inn), .dat (.seq .inss c)], .dat (.seq .states l)] (.dat (.seq .facts (candP ⟨w, mem, inn, c⟩ l))) := by
  cases h : candOk ⟨w, mem, inn, c⟩ l with
  | false => exact CallsF.toV (i_Cand0 (hc := h) ..) (fun res B hR => by obtain ⟨rfl, _⟩ := hR; show (candP _ _).length = 0; rw [candP, h]; rfl)
  | true => exact CallsF.toV (i_CandOk (hc := h) ..) (fun res B hR => by obtain ⟨rfl, rfl⟩ := hR; show Dat.seq _ _ = Dat.seq _ _; rw [candP, h]; rfl)
/-! ### which facts are candidates -/
theorem mem_nTo {w : Int} {l : List V.State} {k a b : Int} {f : V.Fact} : ∀ {N : Nat}, f ∈ nTo w l k a b N ↔ ∃ n : Nat, n < N ∧ f = ⟨k, a, b, (n : Nat)⟩ ∧ tryP w l f = true
  | 0 => by simp [nTo]
  | N + 1 => by
    simp only [nTo, List.mem_append, mem_nTo (N := N)]
    constructor
    · rintro (⟨n, h1, h2⟩ | h)
      · exact ⟨n, by omega, h2⟩
      · split at h
        · rename_i ht
          rw [List.mem_singleton] at h; subst h
          exact ⟨N, by omega, rfl, ht⟩
        · simp at h
    · rintro ⟨n, h1, rfl, h3⟩
      by_cases e : n = N
      · subst e; right; rw [if_pos h3]; exact List.mem_singleton.2 rfl
      · left; exact ⟨n, by omega, rfl, h3⟩
theorem nTo_first {w : Int} {l : List V.State} {k a b : Int} : ∀ {N n : Nat}, n < N → tryP w l ⟨k, a, b, (n : Nat)⟩ = true → ∃ m : Nat, m ≤ n ∧ (⟨k, a, b, (m : Nat)⟩ : V.Fact) ∈ (nTo w l k a b N).take 1
  | 0, n, h, _ => absurd h (Nat.not_lt_zero _)
  | N + 1, n, h, ht => by
    by_cases hn : n < N
    · obtain ⟨m, h1, h2⟩ := nTo_first hn ht
      refine ⟨m, h1, ?_⟩
      simp only [nTo]
      cases hL : nTo w l k a b N with
      | nil => rw [hL] at h2; simp at h2
      | cons x xs => rw [hL] at h2; simpa using h2
    · have e : n = N := by omega
      subst e
      cases hL : nTo w l k a b n with
      | nil => exact ⟨n, Nat.le_refl _, by simp [nTo, hL, ht]⟩
      | cons x xs =>
        have hx : x ∈ nTo w l k a b n := by rw [hL]; exact List.mem_cons_self
        obtain ⟨m, h1, rfl, h3⟩ := mem_nTo.1 hx
        exact ⟨m, by omega, by simp [nTo, hL]⟩
theorem mem_nAll {w : Int} {l : List V.State} {k a b : Int} {f : V.Fact} (h : f ∈ nAll w l k a b) : f.kind = k ∧ tryP w l f = true := by
  have : f ∈ nTo w l k a b (nnP w) := by
    unfold nAll at h
    split at h
    · exact List.mem_of_mem_take h
    · exact h
  obtain ⟨n, _, rfl, h3⟩ := mem_nTo.1 this
  exact ⟨rfl, h3⟩
theorem mem_bTo {w : Int} {l : List V.State} {k a : Int} {f : V.Fact} : ∀ {B : Nat}, f ∈ bTo w l k a B ↔ ∃ b : Nat, b < B ∧ f ∈ nAll w l k a (b : Nat)
  | 0 => by simp [bTo]
  | B + 1 => by
    simp only [bTo, List.mem_append, mem_bTo (B := B)]
    constructor
    · rintro (⟨b, h1, h2⟩ | h)
      · exact ⟨b, by omega, h2⟩
      · exact ⟨B, by omega, h⟩
    · rintro ⟨b, h1, h2⟩
      by_cases e : b = B
      · subst e; exact .inr h2
      · exact .inl ⟨b, by omega, h2⟩
theorem mem_aTo {w : Int} {l : List V.State} {k : Int} {f : V.Fact} : ∀ {A : Nat}, f ∈ aTo w l k A ↔ ∃ a : Nat, a < A ∧ f ∈ bTo w l k (a : Nat) 8
  | 0 => by simp [aTo]
  | A + 1 => by
    simp only [aTo, List.mem_append, mem_aTo (A := A)]
    constructor
    · rintro (⟨b, h1, h2⟩ | h)
      · exact ⟨b, by omega, h2⟩
      · exact ⟨A, by omega, h⟩
    · rintro ⟨b, h1, h2⟩
      by_cases e : b = A
      · subst e; exact .inr h2
      · exact .inl ⟨b, by omega, h2⟩
theorem mem_kTo {w : Int} {l : List V.State} {f : V.Fact} : ∀ {M : Nat}, f ∈ kTo w l M ↔ ∃ k : Nat, k < M ∧ f ∈ aTo w l ((k + 1 : Nat) : Int) 4
  | 0 => by simp [kTo]
  | M + 1 => by
    simp only [kTo, List.mem_append, mem_kTo (M := M)]
    constructor
    · rintro (⟨b, h1, h2⟩ | h)
      · exact ⟨b, by omega, h2⟩
      · exact ⟨M, by omega, h⟩
    · rintro ⟨b, h1, h2⟩
      by_cases e : b = M
      · subst e; exact .inr h2
      · exact .inl ⟨b, by omega, h2⟩
theorem kTo_try {w : Int} {l : List V.State} {M : Nat} {f : V.Fact} (h : f ∈ kTo w l M) : tryP w l f = true := by
  obtain ⟨k, _, h⟩ := mem_kTo.1 h
  obtain ⟨a, _, h⟩ := mem_aTo.1 h
  obtain ⟨b, _, h⟩ := mem_bTo.1 h
  exact (mem_nAll h).2
theorem fact_rng {p : V.Prog} {f : V.Fact} (hp : progP p = true) (h : factP p.w f = true) : (1 ≤ f.kind ∧ f.kind ≤ 6) ∧ (0 ≤ f.a ∧ f.a < 4) ∧ (0 ≤ f.b ∧ f.b < 8) ∧ 0 ≤ f.n ∧ f.n < (nnP p.w : Nat) := by
  obtain ⟨k, a, b, n⟩ := f
  have hw : 2 ≤ p.w ∧ p.w ≤ 8 := by simp [progP, inP] at hp; omega
  have h4 : (4 : Int) ≤ 2 ^ p.w.toNat := by
    obtain ⟨m, hm⟩ : ∃ m, p.w.toNat = m + 2 := ⟨p.w.toNat - 2, by omega⟩
    rw [hm, Int.pow_add]
    have : (0 : Int) < 2 ^ m := Int.pow_pos (by decide)
    show (4 : Int) ≤ 2 ^ m * 4
    omega
  rw [nnP_int]
  simp only [factP] at h
  split at h
  · cases h
  rename_i hr
  have hr' : regP a = true := by cases e : regP a with
    | true => rfl
    | false => exact absurd e hr
  have ha : 0 ≤ a ∧ a < 4 := by simp [regP, inP] at hr'; omega
  split at h
  · rename_i hk; simp only [wordP, inP, Bool.and_eq_true, decide_eq_true_eq] at h; simp only; omega
  split at h
  · rename_i hk; simp only [regP, inP, Bool.and_eq_true, decide_eq_true_eq] at h; simp only; omega
  split at h
  · rename_i hk; simp only [wordP, inP, Bool.and_eq_true, decide_eq_true_eq] at h; simp only; omega
  split at h
  · rename_i hk; simp only [inP, Bool.and_eq_true, decide_eq_true_eq] at h; simp only; omega
  split at h
  · rename_i hk; simp only [wordP, regP, inP, Bool.and_eq_true, decide_eq_true_eq] at h; simp only; omega
  split at h
  · rename_i hk; simp only [regP, inP, Bool.and_eq_true, decide_eq_true_eq] at h; simp only; omega
  · cases h
theorem try_fact {w : Int} {l : List V.State} {f : V.Fact} (h : tryP w l f = true) : factP w f = true ∧ (l.all fun s => trueP w f s.regs) = true := by simpa [tryP] using h
theorem kTo_all {p : V.Prog} {l : List V.State} {f : V.Fact} (hp : progP p = true) (h : tryP p.w l f = true) (hk : ¬ f.kind = 3) : f ∈ kTo p.w l 6 := by
  obtain ⟨h1, h2, h3, h4⟩ := fact_rng hp (try_fact h).1
  obtain ⟨k, a, b, n⟩ := f
  simp only at h1 h2 h3 h4 hk
  have ek : (((k.toNat - 1) + 1 : Nat) : Int) = k := by omega
  have ea : ((a.toNat : Nat) : Int) = a := by omega
  have eb : ((b.toNat : Nat) : Int) = b := by omega
  have en : ((n.toNat : Nat) : Int) = n := by omega
  refine mem_kTo.2 ⟨k.toNat - 1, by omega, ?_⟩
  rw [ek]
  refine mem_aTo.2 ⟨a.toNat, by omega, ?_⟩
  rw [ea]
  refine mem_bTo.2 ⟨b.toNat, by omega, ?_⟩
  rw [eb]
  unfold nAll
  rw [if_neg hk]
  exact mem_nTo.2 ⟨n.toNat, by omega, by rw [en], h⟩
theorem kTo_most {p : V.Prog} {l : List V.State} {f : V.Fact} (hp : progP p = true) (h : tryP p.w l f = true) (hk : f.kind = 3) : ∃ g ∈ kTo p.w l 6, g.kind = 3 ∧ g.a = f.a ∧ g.n ≤ f.n := by
  obtain ⟨h1, h2, h3, h4⟩ := fact_rng hp (try_fact h).1
  obtain ⟨k, a, b, n⟩ := f
  simp only at h1 h2 h3 h4 hk
  subst hk
  have ea : ((a.toNat : Nat) : Int) = a := by omega
  have eb : ((b.toNat : Nat) : Int) = b := by omega
  have en : ((n.toNat : Nat) : Int) = n := by omega
  obtain ⟨m, hm, hx⟩ := nTo_first (w := p.w) (l := l) (k := 3) (a := a) (b := b) (N := nnP p.w) (n := n.toNat) (by omega) (by rw [en]; exact h)
  refine ⟨⟨3, a, b, (m : Nat)⟩, mem_kTo.2 ⟨2, by omega, mem_aTo.2 ⟨a.toNat, by omega, ?_⟩⟩, rfl, rfl, by simp only; omega⟩
  rw [ea]
  refine mem_bTo.2 ⟨b.toNat, by omega, ?_⟩
  rw [eb]
  unfold nAll
  rw [if_pos (by decide)]
  exact hx
/-- a greater bound holds, too -/
theorem most_more {w : Int} {l : List V.State} {f g : V.Fact} (hf : f.kind = 3) (hg : g.kind = 3) (ha : g.a = f.a) (hn : g.n ≤ f.n) (h : (l.all fun s => trueP w g s.regs) = true) : (l.all fun s => trueP w f s.regs) = true := by
  rw [List.all_eq_true] at h ⊢
  intro s hs
  have := h s hs
  simp only [trueP, hf, hg, ha] at this ⊢
  simp at this ⊢
  omega
theorem mok_state {p : V.Prog} {s : V.State} (hp : progP p = true) (m : MOk p s) : stateP p s = true := by
  obtain ⟨h1, h2, h3, h4, h5, h6, h7, h8, h9, h10, h11, h12⟩ := m
  simp only [stateP, Bool.and_eq_true, List.all_eq_true, decide_eq_true_eq, inP, beq_iff_eq]
  refine ⟨⟨hp, h4, h7⟩, fun x hx => ?_, ⟨h3.1, h3.2⟩, ⟨h10, by omega⟩, ⟨h11, h2⟩, ⟨h6.1, h6.2⟩, h12, ⟨h9.1, h9.2⟩, h8.1, h8.2⟩
  exact ⟨(h5 x hx).1, (h5 x hx).2⟩
theorem vis_state {p : V.Prog} {inp : List Int} {pc : Int} (h : inputsP p inp = true) : ∀ (k : Nat), ∀ s ∈ visTo p inp pc k, stateP p s = true
  | 0 => fun s hs => by simp [visTo] at hs
  | k + 1 => fun s hs => by
    simp only [visTo, List.mem_append] at hs
    rcases hs with hs | hs
    · exact vis_state h k s hs
    · split at hs
      · rw [List.mem_singleton] at hs; subst hs; exact mok_state (inp_p h) (run_ok h k)
      · simp at hs
theorem vis_cand {p : V.Prog} {inp : List Int} {fuel pc : Int} (h : 0 < (visP p inp fuel pc).length) : candOk p (visP p inp fuel pc) = true := by
  unfold visP at h ⊢
  split at h
  · rename_i hv
    obtain ⟨h1, _, _⟩ := vizOk_of hv
    rw [if_pos hv]
    unfold candOk
    rw [inp_p h1, decide_eq_true h, List.all_eq_true.2 (vis_state h1 _)]; rfl
  · simp at h
theorem holds_true {p : V.Prog} {f : V.Fact} {s : V.State} (hs : stateP p s = true) (hf : factP p.w f = true) : holdsP p f s.regs = trueP p.w f s.regs := by
  have h := hs
  simp only [stateP, Bool.and_eq_true] at h
  unfold holdsP
  rw [h.1.1, hf, h.2.2.2.1.1, h.2.2.2.1.2]; rfl
theorem cand_holds {p : V.Prog} {l : List V.State} {k j : Nat} (hk : (k : Int) < (candP p l).length) (hj : (j : Int) < l.length) : holdsP p ((candP p l).getD (k : Int).toNat K.facts.dflt) (l.getD (j : Int).toNat K.states.dflt).regs = true := by
  have hk' : k < (candP p l).length := by omega
  have hm : (candP p l).getD (k : Int).toNat K.facts.dflt ∈ candP p l := by
    rw [Int.toNat_natCast, List.getD_eq_getElem?_getD, List.getElem?_eq_getElem hk']; exact List.getElem_mem hk'
  generalize (candP p l).getD (k : Int).toNat K.facts.dflt = f at hm
  unfold candP at hm
  split at hm
  · rename_i hc
    obtain ⟨h1, h2, h3⟩ := cand_of hc
    obtain ⟨h4, h5⟩ := try_fact (kTo_try hm)
    have hs : (l.getD (j : Int).toNat K.states.dflt) ∈ l := by
      rw [Int.toNat_natCast, List.getD_eq_getElem?_getD, List.getElem?_eq_getElem (show j < l.length by omega)]; exact List.getElem_mem _
    rw [holds_true (List.all_eq_true.1 h3 _ hs) h4]
    exact List.all_eq_true.1 h5 _ hs
  · simp at hm
def mostB (f g : V.Fact) : Bool := decide (g.kind = 3) && (decide (f.kind = 3) && (decide (g.a = f.a) && decide (g.n ≤ f.n)))
def trueB (p : V.Prog) (f : V.Fact) (l : List V.State) : Bool := decide (0 < l.length) && l.all fun s => holdsP p f s.regs
theorem true_try {p : V.Prog} {f : V.Fact} {l : List V.State} (hc : candOk p l = true) (hf : factP p.w f = true) : trueB p f l = tryP p.w l f := by
  obtain ⟨h1, h2, h3⟩ := cand_of hc
  unfold trueB tryP
  rw [decide_eq_true h2, hf, Bool.true_and, Bool.true_and]
  rw [Bool.eq_iff_iff, List.all_eq_true, List.all_eq_true]
  exact ⟨fun h s hs => by rw [← holds_true (List.all_eq_true.1 h3 s hs) hf]; exact h s hs, fun h s hs => by rw [holds_true (List.all_eq_true.1 h3 s hs) hf]; exact h s hs⟩
/-- the law's two answers -/
theorem cand_most {p : V.Prog} {inp : List Int} {fuel pc : Int} {f : V.Fact} (hf : progP p = true → factP p.w f = true) (hk : f.kind = 3) : (candP p (visP p inp fuel pc)).any (mostB f) = trueB p f (visP p inp fuel pc) := by
  generalize hl : visP p inp fuel pc = l
  by_cases h0 : 0 < l.length
  · have hc : candOk p l = true := hl ▸ vis_cand (hl ▸ h0)
    obtain ⟨h1, h2, h3⟩ := cand_of hc
    rw [true_try hc (hf h1), Bool.eq_iff_iff, List.any_eq_true]
    unfold candP; rw [if_pos hc]
    constructor
    · rintro ⟨g, hg, hm⟩
      simp only [mostB, Bool.and_eq_true, decide_eq_true_eq] at hm
      obtain ⟨_, h5⟩ := try_fact (kTo_try hg)
      exact by unfold tryP; rw [hf h1, most_more hk hm.1 hm.2.2.1 hm.2.2.2 h5]; rfl
    · intro ht
      obtain ⟨g, hg, e1, e2, e3⟩ := kTo_most h1 ht hk
      exact ⟨g, hg, by simp only [mostB, Bool.and_eq_true, decide_eq_true_eq]; exact ⟨e1, hk, e2, e3⟩⟩
  · have e : l = [] := List.eq_nil_of_length_eq_zero (by omega)
    subst e
    rw [show trueB p f [] = false from rfl]
    unfold candP candOk; simp
theorem cand_found {p : V.Prog} {inp : List Int} {fuel pc : Int} {f : V.Fact} (hf : progP p = true → factP p.w f = true) (hk : ¬ f.kind = 3) : decide (f ∈ candP p (visP p inp fuel pc)) = trueB p f (visP p inp fuel pc) := by
  generalize hl : visP p inp fuel pc = l
  by_cases h0 : 0 < l.length
  · have hc : candOk p l = true := hl ▸ vis_cand (hl ▸ h0)
    obtain ⟨h1, h2, h3⟩ := cand_of hc
    rw [true_try hc (hf h1), Bool.eq_iff_iff, decide_eq_true_iff]
    unfold candP; rw [if_pos hc]
    exact ⟨kTo_try, fun ht => kTo_all h1 ht hk⟩
  · have e : l = [] := List.eq_nil_of_length_eq_zero (by omega)
    subst e
    rw [show trueB p f [] = false from rfl]
    unfold candP candOk; simp
end Vg

namespace Vg
open Go Go.Proofs
set_option maxRecDepth 100000 in
theorem eq_Fact : AggEq Try.prog 49 4 := aggEq4 (T := 49) (t := 3) rfl rfl (by kernel_rfl) (by kernel_rfl) rfl (by decide) ⟨rfl, rfl, rfl, rfl⟩ ⟨rfl, rfl, rfl, rfl⟩
def trueTo (p : V.Prog) (f : V.Fact) (l : List V.State) (j : Nat) : Bool := decide (0 < l.length) && (l.take j).all fun s => holdsP p f s.regs
theorem take_snoc {α : Type} {l : List α} {k : Nat} {d : α} (h : (k : Int) < l.length) : l.take (k + 1) = l.take k ++ [l.getD (k : Int).toNat d] := by
  have h' : k < l.length := by omega
  rw [Int.toNat_natCast, List.take_succ_eq_append_getElem h', List.getD_eq_getElem?_getD, List.getElem?_eq_getElem h', Option.getD_some]
theorem true_0 {p : V.Prog} {f : V.Fact} {l : List V.State} : Dat.bool (trueTo p f l 0) = Dat.bool (decide ((l.length : Int) > 0)) := by
  unfold trueTo; simp
theorem true_y {p : V.Prog} {f : V.Fact} {l : List V.State} {j : Nat} (h : trueTo p f l j = true) (hj : (j : Int) < l.length) : Dat.bool (trueTo p f l (j + 1)) = Dat.bool (holdsP p f (l.getD (j : Int).toNat K.states.dflt).regs) := by
  unfold trueTo at h ⊢
  rw [take_snoc (d := K.states.dflt) hj, List.all_append, ← Bool.and_assoc, h]; simp
theorem true_n {p : V.Prog} {f : V.Fact} {l : List V.State} {j : Nat} (h : trueTo p f l j = false) (hj : (j : Int) < l.length) : Dat.bool (trueTo p f l (j + 1)) = Dat.bool false := by
  unfold trueTo at h ⊢
  rw [take_snoc (d := K.states.dflt) hj, List.all_append, ← Bool.and_assoc, h]; rfl
theorem fnd_y {F : V.Fact} {l : List V.Fact} {k : Nat} (h : decide (F ∈ l.take k) = true) : Dat.bool (decide (F ∈ l.take (k + 1))) = Dat.bool true :=
  congrArg Dat.bool (decide_eq_true (List.mem_of_mem_take (i := k) (by rw [List.take_take, Nat.min_eq_left (by omega)]; exact of_decide_eq_true h)))
theorem fnd_n {fk fa fb fn : Int} {l : List V.Fact} {k : Nat} (h : decide ((⟨fk, fa, fb, fn⟩ : V.Fact) ∈ l.take k) = false) (hk : (k : Int) < l.length) : Dat.bool (decide ((⟨fk, fa, fb, fn⟩ : V.Fact) ∈ l.take (k + 1))) =
    Dat.bool (decide ([(l.getD (k : Int).toNat K.facts.dflt).kind, (l.getD (k : Int).toNat K.facts.dflt).a, (l.getD (k : Int).toNat K.facts.dflt).b, (l.getD (k : Int).toNat K.facts.dflt).n] = [fk, fa, fb, fn])) := by
  have h' := of_decide_eq_false h
  refine congrArg Dat.bool (decide_eq_decide.2 ?_)
  rw [take_snoc (d := K.facts.dflt) hk, List.mem_append, List.mem_singleton]
  generalize l.getD (k : Int).toNat K.facts.dflt = g
  obtain ⟨a, b, c, d⟩ := g
  simp only [h', false_or, V.Fact.mk.injEq, List.cons.injEq, and_true]
  constructor
  · rintro ⟨rfl, rfl, rfl, rfl⟩; exact ⟨rfl, rfl, rfl, rfl⟩
  · rintro ⟨rfl, rfl, rfl, rfl⟩; exact ⟨rfl, rfl, rfl, rfl⟩
theorem fnd_y' {F : V.Fact} {l : List V.Fact} {k : Nat} (h : F ∈ l.take k) : Dat.bool (decide (F ∈ l.take (k + 1))) = Dat.bool true := fnd_y (decide_eq_true h)
theorem fnd_n' {fk fa fb fn : Int} {l : List V.Fact} {k : Nat} (h : ¬ (⟨fk, fa, fb, fn⟩ : V.Fact) ∈ l.take k) (hk : (k : Int) < l.length) : Dat.bool (decide ((⟨fk, fa, fb, fn⟩ : V.Fact) ∈ l.take (k + 1))) =
    Dat.bool (decide ([(l.getD (k : Int).toNat K.facts.dflt).kind, (l.getD (k : Int).toNat K.facts.dflt).a, (l.getD (k : Int).toNat K.facts.dflt).b, (l.getD (k : Int).toNat K.facts.dflt).n] = [fk, fa, fb, fn])) := fnd_n (decide_eq_false h) hk
theorem fnd_0 (F : V.Fact) (l : List V.Fact) : Dat.bool (decide (F ∈ l.take 0)) = Dat.bool false := by simp
theorem mst_0 (F : V.Fact) (l : List V.Fact) : Dat.bool ((l.take 0).any (mostB F)) = Dat.bool false := by simp
theorem mst_y {F : V.Fact} {l : List V.Fact} {k : Nat} (h : (l.take k).any (mostB F) = true) (hk : (k : Int) < l.length) : Dat.bool ((l.take (k + 1)).any (mostB F)) = Dat.bool true := by
  rw [take_snoc (d := K.facts.dflt) hk, List.any_append, h]; rfl
theorem mst_g {F : V.Fact} {l : List V.Fact} {k : Nat} (h : (l.take k).any (mostB F) = false) (hk : (k : Int) < l.length) : (l.take (k + 1)).any (mostB F) = mostB F (l.getD (k : Int).toNat K.facts.dflt) := by
  rw [take_snoc (d := K.facts.dflt) hk, List.any_append, h]; simp
theorem mst_1 {F : V.Fact} {l : List V.Fact} {k : Nat} (h : (l.take k).any (mostB F) = false) (hk : (k : Int) < l.length) (h1 : ¬ (l.getD (k : Int).toNat K.facts.dflt).kind = 3) : Dat.bool ((l.take (k + 1)).any (mostB F)) = Dat.bool false := by
  rw [mst_g h hk]; unfold mostB; rw [decide_eq_false h1]; rfl
theorem mst_2 {F : V.Fact} {l : List V.Fact} {k : Nat} (h : (l.take k).any (mostB F) = false) (hk : (k : Int) < l.length) (h1 : ¬ F.kind = 3) : Dat.bool ((l.take (k + 1)).any (mostB F)) = Dat.bool false := by
  rw [mst_g h hk]; unfold mostB; rw [decide_eq_false h1, Bool.false_and, Bool.and_false]
theorem mst_3 {F : V.Fact} {l : List V.Fact} {k : Nat} (h : (l.take k).any (mostB F) = false) (hk : (k : Int) < l.length) (h1 : ¬ (l.getD (k : Int).toNat K.facts.dflt).a = F.a) : Dat.bool ((l.take (k + 1)).any (mostB F)) = Dat.bool false := by
  rw [mst_g h hk]; unfold mostB; rw [decide_eq_false h1, Bool.false_and, Bool.and_false, Bool.and_false]
theorem mst_4 {F : V.Fact} {l : List V.Fact} {k : Nat} (h : (l.take k).any (mostB F) = false) (hk : (k : Int) < l.length) (h1 : (l.getD (k : Int).toNat K.facts.dflt).kind = 3) (h2 : F.kind = 3) (h3 : (l.getD (k : Int).toNat K.facts.dflt).a = F.a) : Dat.bool ((l.take (k + 1)).any (mostB F)) = Dat.bool (decide ((l.getD (k : Int).toNat K.facts.dflt).n ≤ F.n)) := by
  rw [mst_g h hk]; unfold mostB; rw [decide_eq_true h1, decide_eq_true h2, decide_eq_true h3]; rfl
theorem fin_most {p : V.Prog} {inp : List Int} {fuel pc : Int} {F : V.Fact} {k j : Nat} (hf : progP p = true → factP p.w F = true) (hF : F.kind = 3) (hk : ¬ (k : Int) < (candP p (visP p inp fuel pc)).length) (hj : ¬ (j : Int) < (visP p inp fuel pc).length) :
    Dat.bool (((candP p (visP p inp fuel pc)).take k).any (mostB F) == trueTo p F (visP p inp fuel pc) j) = Dat.bool true := by
  have e := cand_most (inp := inp) (fuel := fuel) (pc := pc) hf hF
  unfold trueB at e
  unfold trueTo
  rw [List.take_of_length_le (by omega), List.take_of_length_le (by omega), e]; simp
theorem fin_found {p : V.Prog} {inp : List Int} {fuel pc : Int} {F : V.Fact} {k j : Nat} (hf : progP p = true → factP p.w F = true) (hF : ¬ F.kind = 3) (hk : ¬ (k : Int) < (candP p (visP p inp fuel pc)).length) (hj : ¬ (j : Int) < (visP p inp fuel pc).length) :
    Dat.bool (decide (F ∈ (candP p (visP p inp fuel pc)).take k) == trueTo p F (visP p inp fuel pc) j) = Dat.bool true := by
  have e := cand_found (inp := inp) (fuel := fuel) (pc := pc) hf hF
  unfold trueB at e
  unfold trueTo
  rw [List.take_of_length_le (by omega), List.take_of_length_le (by omega), e]; simp
theorem fin_m {p : V.Prog} {inp : List Int} {fuel pc fa fb fn : Int} {k j : Nat} (hf : progP p = true → factP p.w ⟨3, fa, fb, fn⟩ = true) (hk : ¬ (k : Int) < (candP p (visP p inp fuel pc)).length) (hj : ¬ (j : Int) < (visP p inp fuel pc).length) :
    Dat.bool true = Dat.bool (((candP p (visP p inp fuel pc)).take k).any (mostB ⟨3, fa, fb, fn⟩) == trueTo p ⟨3, fa, fb, fn⟩ (visP p inp fuel pc) j) := (fin_most hf rfl hk hj).symm
theorem fin_f {p : V.Prog} {inp : List Int} {fuel pc fk fa fb fn : Int} {k j : Nat} (hf : progP p = true → factP p.w ⟨fk, fa, fb, fn⟩ = true) (hF : ¬ fk = 3) (hk : ¬ (k : Int) < (candP p (visP p inp fuel pc)).length) (hj : ¬ (j : Int) < (visP p inp fuel pc).length) :
    Dat.bool true = Dat.bool (decide ((⟨fk, fa, fb, fn⟩ : V.Fact) ∈ (candP p (visP p inp fuel pc)).take k) == trueTo p ⟨fk, fa, fb, fn⟩ (visP p inp fuel pc) j) := (fin_found hf hF hk hj).symm
set_option maxHeartbeats 16000000 in
set_option maxRecDepth 100000 in
theorem law_FC (b : List Int) : CallsV Try.prog 4 [.dat (.seq .bytes b)] (.dat (.bool true)) := by
  refine CallsV.of_awp tauOk mixOk Try.func4 rfl rfl rfl ?_
  conv => whnf
  repeat' (first
    | ((with_reducible refine Alt.l ?_); conv => whnf)
    | ((with_reducible refine fun (K1 : AX → AState → Prop) hK => ?_); conv => whnf)
    | ((with_reducible show K1 _ _); subst hK; conv => whnf)
    | (with_reducible exact rfl)
    | ((with_reducible refine sp_T ?_); conv => whnf)
    | ((with_reducible refine sp_F ?_); conv => whnf)
    | ((with_reducible refine sp_T' ?_); conv => whnf)
    | ((with_reducible refine sp_F' ?_); conv => whnf)
    | ((with_reducible refine sp_dF ?_ ?_); decide; conv => whnf)
    | ((with_reducible refine sp_dT ?_ ?_); decide; conv => whnf)
    | ((with_reducible refine sp_d (fun h => ?_) (fun h => ?_)) <;> first | contradiction | (subst h; conv => whnf) | (conv => whnf))
    | ((with_reducible refine sp_d' (fun h => ?_) (fun h => ?_)) <;> first | contradiction | (subst h; conv => whnf) | (conv => whnf))
    | ((with_reducible refine sp_eF ?_ ?_); decide; conv => whnf)
    | ((with_reducible refine sp_eT ?_); conv => whnf)
    | ((with_reducible refine sp_e (fun h => ?_) (fun h => ?_)) <;> first | contradiction | (subst h; conv => whnf) | (conv => whnf))
    | ((with_reducible refine sp_e' (fun h => ?_) (fun h => ?_)) <;> first | contradiction | (subst h; conv => whnf) | (conv => whnf))
    | ((with_reducible refine sp_n (fun h => ?_) (fun h => ?_)) <;> first | contradiction | (subst h; conv => whnf) | (conv => whnf))
    | ((with_reducible refine sp_n' (fun h => ?_) (fun h => ?_)) <;> first | contradiction | (subst h; conv => whnf) | (conv => whnf))
    | ((with_reducible refine sp_nb (fun h => ?_) (fun h => ?_)) <;> first | (exact Bool.noConfusion (Eq.trans (Eq.symm h) (show _ = true by with_reducible assumption))) | (exact Bool.noConfusion (Eq.trans (Eq.symm (show _ = false by with_reducible assumption)) h)) | (conv => whnf))
    | ((with_reducible refine sp_nb' (fun h => ?_) (fun h => ?_)) <;> first | (exact Bool.noConfusion (Eq.trans (Eq.symm h) (show _ = true by with_reducible assumption))) | (exact Bool.noConfusion (Eq.trans (Eq.symm (show _ = false by with_reducible assumption)) h)) | (conv => whnf))
    | ((with_reducible refine sp_b (fun h => ?_) (fun h => ?_)) <;> first | (exact Bool.noConfusion (Eq.trans (Eq.symm h) (show _ = true by with_reducible assumption))) | (exact Bool.noConfusion (Eq.trans (Eq.symm (show _ = false by with_reducible assumption)) h)) | (conv => whnf))
    | ((with_reducible refine sp_b' (fun h => ?_) (fun h => ?_)) <;> first | (exact Bool.noConfusion (Eq.trans (Eq.symm h) (show _ = true by with_reducible assumption))) | (exact Bool.noConfusion (Eq.trans (Eq.symm (show _ = false by with_reducible assumption)) h)) | (conv => whnf))
    | (refine ⟨(rfl : nodupB _ = true), rfl, ?_⟩; conv => whnf)
    | (with_reducible refine bnd2 ?_ ?_)
    | (with_reducible refine bnd2' ?_ ?_)
    | (with_reducible refine bndN ?_ ?_)
    | ((with_reducible refine and_of ?_ ?_); conv => whnf)
    | ((with_reducible show AggEq _ _ _); exact eq_Fact)
    | (refine Exists.intro ({j : Nat // j ≤ (visP ⟨w, mem, inn, code⟩ (givL w b 60 inn.toNat) 60 hd).length ∧ k ≤ k}) (Exists.intro (fun ⟨j, hj⟩ => mkS Try.f4.ntmps [(3, .ptr 3 0), (5, .dat (.seq .states (visP ⟨w, mem, inn, code⟩ (givL w b 60 inn.toNat) 60 hd))), (6, .ptr 6 0), (7, .dat (.bool (decide ((⟨fk, fa, fb, fn⟩ : V.Fact) ∈ (candP ⟨w, mem, inn, code⟩ (visP ⟨w, mem, inn, code⟩ (givL w b 60 inn.toNat) 60 hd)).take k)))), (8, .dat (.bool (((candP ⟨w, mem, inn, code⟩ (visP ⟨w, mem, inn, code⟩ (givL w b 60 inn.toNat) 60 hd)).take k).any (mostB (⟨fk, fa, fb, fn⟩ : V.Fact))))), (45, .dat (.seq .facts (candP ⟨w, mem, inn, code⟩ (visP ⟨w, mem, inn, code⟩ (givL w b 60 inn.toNat) 60 hd)))), (46, .dat (.i (candP ⟨w, mem, inn, code⟩ (visP ⟨w, mem, inn, code⟩ (givL w b 60 inn.toNat) 60 hd)).length)), (47, .dat (.i k)), (10, .ptr 10 0), (51, .dat (.seq .states (visP ⟨w, mem, inn, code⟩ (givL w b 60 inn.toNat) 60 hd))), (52, .dat (.i (visP ⟨w, mem, inn, code⟩ (givL w b 60 inn.toNat) 60 hd).length)), (53, .dat (.i j))] [(3, .box [.dat (.i w), .dat (.i mem), .dat (.i inn), .dat (.seq .inss code)]), (6, .box [.dat (.i fk), .dat (.i fa), .dat (.i fb), .dat (.i fn)]), (10, .box [.dat (.i ((candP ⟨w, mem, inn, code⟩ (visP ⟨w, mem, inn, code⟩ (givL w b 60 inn.toNat) 60 hd)).getD ((k : Nat) : Int).toNat K.facts.dflt).kind), .dat (.i ((candP ⟨w, mem, inn, code⟩ (visP ⟨w, mem, inn, code⟩ (givL w b 60 inn.toNat) 60 hd)).getD ((k : Nat) : Int).toNat K.facts.dflt).a), .dat (.i ((candP ⟨w, mem, inn, code⟩ (visP ⟨w, mem, inn, code⟩ (givL w b 60 inn.toNat) 60 hd)).getD ((k : Nat) : Int).toNat K.facts.dflt).b), .dat (.i ((candP ⟨w, mem, inn, code⟩ (visP ⟨w, mem, inn, code⟩ (givL w b 60 inn.toNat) 60 hd)).getD ((k : Nat) : Int).toNat K.facts.dflt).n)])]) (Exists.intro (fun ⟨j, hj⟩ => (visP ⟨w, mem, inn, code⟩ (givL w b 60 inn.toNat) 60 hd).length - j) (Exists.intro ⟨0, ⟨Nat.zero_le _, Nat.le_refl _⟩⟩ (And.intro (SubP.sub (σ := [(3, some 3), (6, some 6), (10, some 10)]) ⟨⟨rfl, rfl, rfl⟩, ⟨⟨rfl, rfl⟩, (wk_dat ?_), ⟨rfl, rfl⟩, (wk_dat ?_), (wk_dat ?_), (wk_dat ?_), (wk_dat ?_), (wk_dat ?_), ⟨rfl, rfl⟩, (wk_dat ?_), (wk_dat ?_), (wk_dat ?_), trivial⟩, ⟨⟨(wkC_dat ?_), (wkC_dat ?_), (wkC_dat ?_), (wkC_dat ?_), trivial⟩, ⟨(wkC_dat ?_), (wkC_dat ?_), (wkC_dat ?_), (wkC_dat ?_), trivial⟩, ⟨(wkC_dat ?_), (wkC_dat ?_), (wkC_dat ?_), (wkC_dat ?_), trivial⟩, trivial⟩⟩) (fun ⟨j, hj⟩ => ?_))))); rotate_right; conv => whnf)
    | (refine Exists.intro (⟨j + 1, ?_⟩ : {j : Nat // j ≤ (visP ⟨w, mem, inn, code⟩ (givL w b 60 inn.toNat) 60 hd).length ∧ k ≤ k}) (And.intro ?_ (SubP.sub (σ := [(3, some 3), (6, some 6), (10, some 10)]) ⟨⟨rfl, rfl, rfl⟩, ⟨⟨rfl, rfl⟩, (wk_dat ?_), ⟨rfl, rfl⟩, (wk_dat ?_), (wk_dat ?_), (wk_dat ?_), (wk_dat ?_), (wk_dat ?_), ⟨rfl, rfl⟩, (wk_dat ?_), (wk_dat ?_), (wk_dat ?_), trivial⟩, ⟨⟨(wkC_dat ?_), (wkC_dat ?_), (wkC_dat ?_), (wkC_dat ?_), trivial⟩, ⟨(wkC_dat ?_), (wkC_dat ?_), (wkC_dat ?_), (wkC_dat ?_), trivial⟩, ⟨(wkC_dat ?_), (wkC_dat ?_), (wkC_dat ?_), (wkC_dat ?_), trivial⟩, trivial⟩⟩)))
    | (refine Exists.intro ({j : Nat // j ≤ (visP ⟨w, mem, inn, code⟩ (givL w b 60 inn.toNat) 60 hd).length}) (Exists.intro (fun ⟨j, hj⟩ => mkS Try.f4.ntmps [(3, .ptr 3 0), (5, .dat (.seq .states (visP ⟨w, mem, inn, code⟩ (givL w b 60 inn.toNat) 60 hd))), (6, .ptr 6 0), (7, .dat (.bool (decide ((⟨fk, fa, fb, fn⟩ : V.Fact) ∈ (candP ⟨w, mem, inn, code⟩ (visP ⟨w, mem, inn, code⟩ (givL w b 60 inn.toNat) 60 hd)).take k)))), (8, .dat (.bool (((candP ⟨w, mem, inn, code⟩ (visP ⟨w, mem, inn, code⟩ (givL w b 60 inn.toNat) 60 hd)).take k).any (mostB (⟨fk, fa, fb, fn⟩ : V.Fact))))), (13, .dat (.bool (trueTo ⟨w, mem, inn, code⟩ (⟨fk, fa, fb, fn⟩ : V.Fact) (visP ⟨w, mem, inn, code⟩ (givL w b 60 inn.toNat) 60 hd) j))), (99, .dat (.seq .states (visP ⟨w, mem, inn, code⟩ (givL w b 60 inn.toNat) 60 hd))), (100, .dat (.i (visP ⟨w, mem, inn, code⟩ (givL w b 60 inn.toNat) 60 hd).length)), (101, .dat (.i j))] [(3, .box [.dat (.i w), .dat (.i mem), .dat (.i inn), .dat (.seq .inss code)]), (6, .box [.dat (.i fk), .dat (.i fa), .dat (.i fb), .dat (.i fn)])]) (Exists.intro (fun ⟨j, hj⟩ => (visP ⟨w, mem, inn, code⟩ (givL w b 60 inn.toNat) 60 hd).length - j) (Exists.intro ⟨0, Nat.zero_le _⟩ (And.intro (SubP.sub (σ := [(3, some 3), (6, some 6)]) ⟨⟨rfl, rfl, rfl⟩, ⟨⟨rfl, rfl⟩, (wk_dat ?_), ⟨rfl, rfl⟩, (wk_dat ?_), (wk_dat ?_), (wk_dat ?_), (wk_dat ?_), (wk_dat ?_), (wk_dat ?_), trivial⟩, ⟨⟨(wkC_dat ?_), (wkC_dat ?_), (wkC_dat ?_), (wkC_dat ?_), trivial⟩, ⟨(wkC_dat ?_), (wkC_dat ?_), (wkC_dat ?_), (wkC_dat ?_), trivial⟩, trivial⟩⟩) (fun ⟨j, hj⟩ => ?_))))); rotate_right; conv => whnf)
    | (refine Exists.intro (⟨j + 1, ?_⟩ : {j : Nat // j ≤ (visP ⟨w, mem, inn, code⟩ (givL w b 60 inn.toNat) 60 hd).length}) (And.intro ?_ (SubP.sub (σ := [(3, some 3), (6, some 6)]) ⟨⟨rfl, rfl, rfl⟩, ⟨⟨rfl, rfl⟩, (wk_dat ?_), ⟨rfl, rfl⟩, (wk_dat ?_), (wk_dat ?_), (wk_dat ?_), (wk_dat ?_), (wk_dat ?_), (wk_dat ?_), trivial⟩, ⟨⟨(wkC_dat ?_), (wkC_dat ?_), (wkC_dat ?_), (wkC_dat ?_), trivial⟩, ⟨(wkC_dat ?_), (wkC_dat ?_), (wkC_dat ?_), (wkC_dat ?_), trivial⟩, trivial⟩⟩)))
    | (refine Exists.intro ({k : Nat // k ≤ (candP ⟨w, mem, inn, code⟩ (visP ⟨w, mem, inn, code⟩ (givL w b 60 inn.toNat) 60 hd)).length}) (Exists.intro (fun ⟨k, hk⟩ => mkS Try.f4.ntmps [(3, .ptr 3 0), (5, .dat (.seq .states (visP ⟨w, mem, inn, code⟩ (givL w b 60 inn.toNat) 60 hd))), (6, .ptr 6 0), (7, .dat (.bool (decide ((⟨fk, fa, fb, fn⟩ : V.Fact) ∈ (candP ⟨w, mem, inn, code⟩ (visP ⟨w, mem, inn, code⟩ (givL w b 60 inn.toNat) 60 hd)).take k)))), (8, .dat (.bool (((candP ⟨w, mem, inn, code⟩ (visP ⟨w, mem, inn, code⟩ (givL w b 60 inn.toNat) 60 hd)).take k).any (mostB (⟨fk, fa, fb, fn⟩ : V.Fact))))), (45, .dat (.seq .facts (candP ⟨w, mem, inn, code⟩ (visP ⟨w, mem, inn, code⟩ (givL w b 60 inn.toNat) 60 hd)))), (46, .dat (.i (candP ⟨w, mem, inn, code⟩ (visP ⟨w, mem, inn, code⟩ (givL w b 60 inn.toNat) 60 hd)).length)), (47, .dat (.i k))] [(3, .box [.dat (.i w), .dat (.i mem), .dat (.i inn), .dat (.seq .inss code)]), (6, .box [.dat (.i fk), .dat (.i fa), .dat (.i fb), .dat (.i fn)])]) (Exists.intro (fun ⟨k, hk⟩ => (candP ⟨w, mem, inn, code⟩ (visP ⟨w, mem, inn, code⟩ (givL w b 60 inn.toNat) 60 hd)).length - k) (Exists.intro ⟨0, Nat.zero_le _⟩ (And.intro (SubP.sub (σ := [(3, some 3), (6, some 6)]) ⟨⟨rfl, rfl, rfl⟩, ⟨⟨rfl, rfl⟩, (wk_dat ?_), ⟨rfl, rfl⟩, (wk_dat ?_), (wk_dat ?_), (wk_dat ?_), (wk_dat ?_), (wk_dat ?_), trivial⟩, ⟨⟨(wkC_dat ?_), (wkC_dat ?_), (wkC_dat ?_), (wkC_dat ?_), trivial⟩, ⟨(wkC_dat ?_), (wkC_dat ?_), (wkC_dat ?_), (wkC_dat ?_), trivial⟩, trivial⟩⟩) (fun ⟨k, hk⟩ => ?_))))); rotate_right; conv => whnf)
    | (refine Exists.intro (⟨k + 1, ?_⟩ : {k : Nat // k ≤ (candP ⟨w, mem, inn, code⟩ (visP ⟨w, mem, inn, code⟩ (givL w b 60 inn.toNat) 60 hd)).length}) (And.intro ?_ (SubP.sub (σ := [(3, some 3), (6, some 6)]) ⟨⟨rfl, rfl, rfl⟩, ⟨⟨rfl, rfl⟩, (wk_dat ?_), ⟨rfl, rfl⟩, (wk_dat ?_), (wk_dat ?_), (wk_dat ?_), (wk_dat ?_), (wk_dat ?_), trivial⟩, ⟨⟨(wkC_dat ?_), (wkC_dat ?_), (wkC_dat ?_), (wkC_dat ?_), trivial⟩, ⟨(wkC_dat ?_), (wkC_dat ?_), (wkC_dat ?_), (wkC_dat ?_), trivial⟩, trivial⟩⟩)))
    | ((with_reducible refine fcI (g := 19) ?_); refine ⟨_, _, c_GiveLoop (hn := ?_) (hl := by with_reducible assumption) .., rfl, fun res B hRB => ?_⟩; rotate_right; obtain ⟨⟨w, mem, inn, hd, code, rfl, hn1⟩, rfl⟩ := hRB; conv => whnf)
    | ((with_reducible show Exists _); refine Exists.intro _ (And.intro (i_Viz0 (hx := by assumption) ..) (And.intro rfl ?_)); rotate_right; conv => whnf)
    | ((with_reducible refine pcI (g := 20) ?_); refine ⟨_, iv_VisitsOf .., rfl, ?_⟩; rotate_right; conv => whnf)
    | ((with_reducible show Exists _); refine Exists.intro _ (And.intro (iv_VisitsOf ..) (And.intro rfl ?_)); rotate_right; conv => whnf)
    | ((with_reducible refine pcI (g := 12) ?_); refine ⟨_, v_GiveInputs (hn := ?_) (hl := by assumption) (h1 := ?_) .., rfl, ?_⟩; rotate_right; conv => whnf)
    | ((with_reducible show Exists _); refine Exists.intro _ (And.intro (v_GiveInputs (hn := ?_) (hl := by assumption) (h1 := ?_) ..) (And.intro rfl ?_)); rotate_right; conv => whnf)
    | ((with_reducible show Exists _); refine Exists.intro _ (And.intro (s_Viz0 (hx := by assumption) ..) (And.intro rfl ?_)); rotate_right; conv => whnf)
    | ((with_reducible refine pcI (g := 21) ?_); refine ⟨_, sv_VisitsOf .., rfl, ?_⟩; rotate_right; conv => whnf)
    | ((with_reducible show Exists _); refine Exists.intro _ (And.intro (sv_VisitsOf ..) (And.intro rfl ?_)); rotate_right; conv => whnf)
    | ((with_reducible refine fcI (g := 22) ?_); refine ⟨_, _, c_GiveFact (hn := ?_) (hl := by with_reducible assumption) .., rfl, fun res B hRB => ?_⟩; rotate_right; obtain ⟨⟨fk, fa, fb, fn, rfl, hf⟩, rfl⟩ := hRB; conv => whnf)
    | ((with_reducible show Exists _); refine Exists.intro _ (And.intro (i_Cand0 (hc := by assumption) ..) (And.intro rfl ?_)); rotate_right; conv => whnf)
    | ((with_reducible refine pcI (g := 23) ?_); refine ⟨_, iv_Cand .., rfl, ?_⟩; rotate_right; conv => whnf)
    | ((with_reducible show Exists _); refine Exists.intro _ (And.intro (iv_Cand ..) (And.intro rfl ?_)); rotate_right; conv => whnf)
    | ((with_reducible refine pcI (g := 24) ?_); refine ⟨_, i_FactHolds .., rfl, ?_⟩; rotate_right; conv => whnf)
    | ((with_reducible show Exists _); refine Exists.intro _ (And.intro (i_FactHolds ..) (And.intro rfl ?_)); rotate_right; conv => whnf)
    | ((with_reducible refine pcI (g := 25) ?_); refine ⟨_, s_FactHolds .., rfl, ?_⟩; rotate_right; conv => whnf)
    | ((with_reducible show Exists _); refine Exists.intro _ (And.intro (s_FactHolds ..) (And.intro rfl ?_)); rotate_right; conv => whnf)
    | ((with_reducible show awpOps _ _ _ _ _ _); conv => whnf)
    | (intro h; conv => whnf))
  all_goals (repeat (clear hK; clear K1))
  all_goals first
    | (with_reducible assumption)
    | decide
    | exact eq_Fact
    | exact true_0
    | exact fnd_0 _ _
    | exact mst_0 _ _
    | exact true_y (by with_reducible assumption) (by with_reducible assumption)
    | exact true_n (by with_reducible assumption) (by with_reducible assumption)
    | exact fnd_y (by with_reducible assumption)
    | exact fnd_n (by with_reducible assumption) (by with_reducible assumption)
    | exact fnd_y' (by with_reducible assumption)
    | exact fnd_n' (by with_reducible assumption) (by with_reducible assumption)
    | exact mst_y (by with_reducible assumption) (by with_reducible assumption)
    | exact mst_1 (by with_reducible assumption) (by with_reducible assumption) (by with_reducible assumption)
    | exact mst_2 (by with_reducible assumption) (by with_reducible assumption) (by with_reducible assumption)
    | exact mst_3 (by with_reducible assumption) (by with_reducible assumption) (by with_reducible assumption)
    | exact mst_4 (by with_reducible assumption) (by with_reducible assumption) (by with_reducible assumption) (by first | with_reducible rfl | with_reducible assumption) (by first | with_reducible rfl | with_reducible assumption)
    | exact fin_m hf (by with_reducible assumption) (by with_reducible assumption)
    | exact fin_f hf (by with_reducible assumption) (by with_reducible assumption) (by with_reducible assumption)
    | exact fin_most hf (by first | with_reducible rfl | with_reducible assumption) (by with_reducible assumption) (by with_reducible assumption)
    | exact fin_found hf (by with_reducible assumption) (by with_reducible assumption) (by with_reducible assumption)
    | (exfalso; exact Bool.noConfusion ((cand_holds (by with_reducible assumption) (by with_reducible assumption)).symm.trans (by with_reducible assumption)))
    | exact congrArg (Dat.int .i64) (wrap_succ (by with_reducible assumption) (by with_reducible assumption)).symm
    | omega
    | (dsimp only; omega)
    | exact rfl
    | skip
end Vg

