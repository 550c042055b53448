/- The edges of all tests: contracts of CoverAll. Condition: the tests are in order. -/
import Derived.Test.YtnjkencoohaheaaCovS
import Derived.Test.YtnjkencoohaheaaKills
namespace Vg
open Go Go.Proofs
def calOk (p : V.Prog) (ts : List (List Int)) (fuel : Int) : Bool := ts.all (fun x => inputsP p x) && inP fuel 0 400
theorem calOk_of {p : V.Prog} {ts : List (List Int)} {fuel : Int} (h : calOk p ts fuel = true) : ts.all (fun x => inputsP p x) = true ∧ inP fuel 0 400 = true := by
  unfold calOk at h; exact Bool.and_eq_true _ _ ▸ h
def allTo (p : V.Prog) (ts : List (List Int)) (fuel : Int) : Nat → List Int
  | 0 => []
  | k + 1 => allTo p ts fuel k ++ asc (rawTo p (ts.getD k []) fuel.toNat)
theorem all_len (p : V.Prog) (ts : List (List Int)) (fuel : Int) (hf : inP fuel 0 400 = true) (k : Nat) : (allTo p ts fuel k).length ≤ 400 * k := by
  induction k with
  | zero => simp [allTo]
  | succ k ih =>
    have h1 := asc_len (rawTo p (ts.getD k []) fuel.toNat)
    have h2 := raw_len p (ts.getD k []) fuel.toNat
    have h3 := cfuel_b hf
    simp only [allTo, List.length_append]; omega
theorem asc_nil : asc [] = [] := List.eq_nil_of_length_eq_zero (Nat.le_zero.1 (asc_len []))
theorem cal_step (p : V.Prog) (ts : List (List Int)) (fuel : Int) (k : Nat) : asc (allTo p ts fuel (k + 1)) = insA (asc (allTo p ts fuel k)) (rawTo p (ts.getD k []) fuel.toNat) := by
  rw [insA_asc]
  exact asc_eq fun x => by simp only [allTo, List.mem_append, asc_mem]
theorem raw_rng {p : V.Prog} {inp : List Int} (hi : inputsP p inp = true) (k : Nat) : ∀ x ∈ rawTo p inp k, 0 ≤ x ∧ x < 80 := by
  induction k with
  | zero => simp [rawTo]
  | succ k ih =>
    intro x hx
    simp only [rawTo, List.mem_append] at hx
    rcases hx with hx | hx
    · exact ih x hx
    · unfold edgeAt at hx
      split at hx
      · rename_i h
        rw [List.mem_singleton] at hx
        subst hx
        have h1 := (run_ok hi k).pc
        have h2 : (p.code.length : Int) ≤ 40 := (prog_w (inp_p hi)).2.2.2.1
        have h3 : ∀ b, 0 ≤ truthP b ∧ truthP b ≤ 1 := fun b => by cases b <;> decide
        have h4 := h3 (decide ((runM p inp k).regs.getD (p.code.getD (runM p inp k).pc.toNat K.inss.dflt).a.toNat K.ints.dflt = 0))
        have h5 := h.2.2.1
        omega
      · simp at hx
theorem strict_len : ∀ {l : List Int} {a b : Int}, Strict l → (∀ x ∈ l, a ≤ x ∧ x < b) → (l.length : Int) ≤ max 0 (b - a)
  | [], _, _, _, _ => by simp; omega
  | x :: l, a, b, h, hx => by
    have h' := List.pairwise_cons.1 h
    have h1 := hx x List.mem_cons_self
    have h2 := strict_len (a := x + 1) (b := b) h'.2 fun y hy => ⟨by have := h'.1 y hy; omega, (hx y (List.mem_cons_of_mem _ hy)).2⟩
    simp only [List.length_cons]; omega
theorem all_rng {p : V.Prog} {ts : List (List Int)} {fuel : Int} (h : ts.all (fun x => inputsP p x) = true) (k : Nat) (hk : k ≤ ts.length) : ∀ x ∈ allTo p ts fuel k, 0 ≤ x ∧ x < 80 := by
  induction k with
  | zero => simp [allTo]
  | succ k ih =>
    intro x hx
    simp only [allTo, List.mem_append] at hx
    rcases hx with hx | hx
    · exact ih (by omega) x hx
    · exact raw_rng (all_at h (by omega)) _ x (asc_mem.1 hx)
theorem asc80 {l : List Int} (h : ∀ x ∈ l, 0 ≤ x ∧ x < 80) : (asc l).length ≤ 80 := by
  have := strict_len (asc_strict l) (a := 0) (b := 80) fun x hx => h x (asc_mem.1 hx)
  omega
set_option maxHeartbeats 4000000 in
set_option maxRecDepth 100000 in
theorem i_CalOk (w mem inn : Int) (c : List V.Ins) (ts : List (List Int)) (fuel : Int) (h3 : ts.all (fun x => inputsP ⟨w, mem, inn, c⟩ x) = true) (hf : inP fuel 0 400 = true) (hl : ts.length ≤ 1048576) : CallsF Try.prog 41 [.agg [.dat (.i w), .dat (.i mem), .dat (.i inn), .dat (.seq .inss c)], .dat (.seq .intss ts), .dat (.i fuel)] true (fun res B => res = .row 0 ∧ B = [.row 3 .ints (asc (allTo ⟨w, mem, inn, c⟩ ts fuel ts.length)) false]) := by
  refine CallsF.of_awp tauOk mixOk Try.func41 rfl rfl rfl ?_
  conv => whnf
  repeat' (first
    | ((with_reducible refine Alt.l ?_); conv => whnf)
    | ((with_reducible refine fun (K1 : AX → AState → Prop) hK => ?_); conv => whnf)
    | ((with_reducible show K1 _ _); subst hK; conv => whnf)
    | (with_reducible exact rfl)
    | ((with_reducible refine sp_T ?_); conv => whnf)
    | ((with_reducible refine sp_F ?_); conv => whnf)
    | ((with_reducible refine sp_T' ?_); conv => whnf)
    | ((with_reducible refine sp_F' ?_); conv => whnf)
    | ((with_reducible refine sp_dF ?_ ?_); decide; conv => whnf)
    | ((with_reducible refine sp_dT ?_ ?_); decide; conv => whnf)
    | ((with_reducible refine sp_d (fun h => ?_) (fun h => ?_)) <;> first | contradiction | (subst h; conv => whnf) | (conv => whnf))
    | ((with_reducible refine sp_d' (fun h => ?_) (fun h => ?_)) <;> first | contradiction | (subst h; conv => whnf) | (conv => whnf))
    | ((with_reducible refine sp_eF ?_ ?_); decide; conv => whnf)
    | ((with_reducible refine sp_eT ?_); conv => whnf)
    | ((with_reducible refine sp_e (fun h => ?_) (fun h => ?_)) <;> first | contradiction | (subst h; conv => whnf) | (conv => whnf))
    | ((with_reducible refine sp_e' (fun h => ?_) (fun h => ?_)) <;> first | contradiction | (subst h; conv => whnf) | (conv => whnf))
    | ((with_reducible refine sp_n (fun h => ?_) (fun h => ?_)) <;> first | contradiction | (subst h; conv => whnf) | (conv => whnf))
    | ((with_reducible refine sp_n' (fun h => ?_) (fun h => ?_)) <;> first | contradiction | (subst h; conv => whnf) | (conv => whnf))
    | ((with_reducible refine sp_nb (fun h => ?_) (fun h => ?_)) <;> first | (exact Bool.noConfusion (Eq.trans (Eq.symm h) (show _ = true by with_reducible assumption))) | (exact Bool.noConfusion (Eq.trans (Eq.symm (show _ = false by with_reducible assumption)) h)) | (conv => whnf))
    | ((with_reducible refine sp_nb' (fun h => ?_) (fun h => ?_)) <;> first | (exact Bool.noConfusion (Eq.trans (Eq.symm h) (show _ = true by with_reducible assumption))) | (exact Bool.noConfusion (Eq.trans (Eq.symm (show _ = false by with_reducible assumption)) h)) | (conv => whnf))
    | ((with_reducible refine sp_b (fun h => ?_) (fun h => ?_)) <;> first | (exact Bool.noConfusion (Eq.trans (Eq.symm h) (show _ = true by with_reducible assumption))) | (exact Bool.noConfusion (Eq.trans (Eq.symm (show _ = false by with_reducible assumption)) h)) | (conv => whnf))
    | ((with_reducible refine sp_b' (fun h => ?_) (fun h => ?_)) <;> first | (exact Bool.noConfusion (Eq.trans (Eq.symm h) (show _ = true by with_reducible assumption))) | (exact Bool.noConfusion (Eq.trans (Eq.symm (show _ = false by with_reducible assumption)) h)) | (conv => whnf))
    | (refine ⟨(rfl : nodupB _ = true), rfl, ?_⟩; conv => whnf)
    | (with_reducible refine bnd2 ?_ ?_)
    | (with_reducible refine bnd2' ?_ ?_)
    | (with_reducible refine bndN ?_ ?_)
    | ((with_reducible refine and_of ?_ ?_); conv => whnf)
    | (refine Exists.intro ({k : Nat // k ≤ ts.length}) (Exists.intro (fun ⟨k, hk⟩ => mkS Try.f41.ntmps [(1, .dat (.seq .intss ts)), (2, .dat (.i fuel)), (3, .ptr 3 0), (7, .row 107), (19, .dat (.seq .intss ts)), (20, .dat (.i ts.length)), (21, .dat (.i k))] [(3, .box [.dat (.i w), .dat (.i mem), .dat (.i inn), .dat (.seq .inss c)]), (107, .row 3 .ints (allTo ⟨w, mem, inn, c⟩ ts fuel k) false)]) (Exists.intro (fun ⟨k, hk⟩ => ts.length - k) (Exists.intro ⟨0, Nat.zero_le _⟩ (And.intro (SubP.sub (σ := [(3, some 3), (107, none)]) ⟨⟨rfl, rfl, rfl⟩, ⟨(wk_dat ?_), (wk_dat ?_), ⟨rfl, rfl⟩, rfl, (wk_dat ?_), (wk_dat ?_), (wk_dat ?_), trivial⟩, ⟨⟨(wkC_dat ?_), (wkC_dat ?_), (wkC_dat ?_), (wkC_dat ?_), trivial⟩, ?_, trivial⟩⟩) (fun ⟨k, hk⟩ => ?_))))); rotate_right; conv => whnf)
    | (refine Exists.intro ⟨k + 1, ?_⟩ (And.intro ?_ (SubP.sub (σ := [(3, some 3), (107, some 30)]) ⟨⟨rfl, rfl, rfl⟩, ⟨(wk_dat ?_), (wk_dat ?_), ⟨rfl, rfl⟩, rfl, (wk_dat ?_), (wk_dat ?_), (wk_dat ?_), trivial⟩, ⟨⟨(wkC_dat ?_), (wkC_dat ?_), (wkC_dat ?_), (wkC_dat ?_), trivial⟩, ⟨⟨rfl, rfl⟩, ?_⟩, trivial⟩⟩)))
    | ((with_reducible refine pcI (g := 66) ?_); refine ⟨_, i_testsOk .., rfl, ?_⟩; rotate_right; conv => whnf)
    | ((with_reducible show Exists _); refine Exists.intro _ (And.intro (i_testsOk ..) (And.intro rfl ?_)); rotate_right; conv => whnf)
    | ((with_reducible refine pcI (g := 67) ?_); refine ⟨_, i_fuelOk .., rfl, ?_⟩; rotate_right; conv => whnf)
    | ((with_reducible show Exists _); refine Exists.intro _ (And.intro (i_fuelOk ..) (And.intro rfl ?_)); rotate_right; conv => whnf)
    | ((with_reducible refine fcI (g := 97) ?_); refine ⟨_, _, i_edgesOf (hp := by assumption) (hi := by assumption) (hf := by assumption) .., rfl, fun res B hRB => ?_⟩; rotate_right; obtain ⟨rfl, rfl⟩ := hRB; conv => whnf)
    | ((with_reducible refine fcI (g := 97) ?_); refine ⟨_, _, i_edgesOf (hp := ?_) (hi := ?_) (hf := ?_) .., rfl, fun res B hRB => ?_⟩; rotate_right; obtain ⟨rfl, rfl⟩ := hRB; conv => whnf)
    | ((with_reducible refine gcI (g := 90) ?_); refine ⟨_, _, i_ascending (hl := ?_) .., fun res B hRB => ?_⟩; rotate_right; obtain ⟨rfl, rfl⟩ := hRB; conv => whnf)
    | ((with_reducible show awpOps _ _ _ _ _ _); conv => whnf)
    | (intro h; conv => whnf))
  all_goals (repeat (clear hK; clear K1))
  all_goals first
    | (with_reducible rfl)
    | (with_reducible assumption)
    | omega
    | (dsimp only; omega)
    | exact inp_p (all_at h3 (by with_reducible assumption))
    | exact all_at h3 (by with_reducible assumption)
    | (rw [Int.toNat_natCast]; exact all_at h3 (by with_reducible assumption))
    | exact congrArg (Dat.int .i64) (wrap_id (by omega) (by omega)).symm
    | (have q := all_len ⟨w, mem, inn, c⟩ ts fuel hf k; have q2 := asc_len (rawTo ⟨w, mem, inn, c⟩ (ts.getD k []) fuel.toNat); have q3 := raw_len ⟨w, mem, inn, c⟩ (ts.getD k []) fuel.toNat; have q4 := cfuel_b hf; show ((allTo ⟨w, mem, inn, c⟩ ts fuel k).length + (asc (rawTo ⟨w, mem, inn, c⟩ (ts.getD k []) fuel.toNat)).length) * 8 ≤ 140737488355328; omega)
    | (have q := all_len ⟨w, mem, inn, c⟩ ts fuel hf k; have q2 := asc_len (rawTo ⟨w, mem, inn, c⟩ (ts.getD k []) fuel.toNat); have q3 := raw_len ⟨w, mem, inn, c⟩ (ts.getD k []) fuel.toNat; have q4 := cfuel_b hf; have hm : maxLen = 9223372036854775807 := rfl; show ((allTo ⟨w, mem, inn, c⟩ ts fuel k).length + (asc (rawTo ⟨w, mem, inn, c⟩ (ts.getD k []) fuel.toNat)).length) ≤ maxLen; omega)
    | (have q := all_len ⟨w, mem, inn, c⟩ ts fuel hf k; show (allTo ⟨w, mem, inn, c⟩ ts fuel k).length ≤ 1000000000; omega)
    | exact row_fin (by rw [show k = ts.length from by omega])
    | exact rfl
    | skip
set_option maxHeartbeats 4000000 in
set_option maxRecDepth 100000 in
theorem s_CalOk (w mem inn : Int) (c : List V.Ins) (ts : List (List Int)) (fuel : Int) (h3 : ts.all (fun x => inputsP ⟨w, mem, inn, c⟩ x) = true) (hf : inP fuel 0 400 = true) (hl : ts.length ≤ 1048576) : CallsF Try.prog 38 [.agg [.dat (.i w), .dat (.i mem), .dat (.i inn), .dat (.seq .inss c)], .dat (.seq .intss ts), .dat (.i fuel)] true (fun res B => res = .row 0 ∧ B = [.row 3 .ints (asc (allTo ⟨w, mem, inn, c⟩ ts fuel ts.length)) false]) := by
  refine CallsF.of_awp tauOk mixOk Try.func38 rfl rfl rfl ?_
  conv => whnf
  repeat' (first
    | ((with_reducible refine Alt.l ?_); conv => whnf)
    | ((with_reducible refine fun (K1 : AX → AState → Prop) hK => ?_); conv => whnf)
    | ((with_reducible show K1 _ _); subst hK; conv => whnf)
    | (with_reducible exact rfl)
    | ((with_reducible refine sp_T ?_); conv => whnf)
    | ((with_reducible refine sp_F ?_); conv => whnf)
    | ((with_reducible refine sp_T' ?_); conv => whnf)
    | ((with_reducible refine sp_F' ?_); conv => whnf)
    | ((with_reducible refine sp_dF ?_ ?_); decide; conv => whnf)
    | ((with_reducible refine sp_dT ?_ ?_); decide; conv => whnf)
    | ((with_reducible refine sp_d (fun h => ?_) (fun h => ?_)) <;> first | contradiction | (subst h; conv => whnf) | (conv => whnf))
    | ((with_reducible refine sp_d' (fun h => ?_) (fun h => ?_)) <;> first | contradiction | (subst h; conv => whnf) | (conv => whnf))
    | ((with_reducible refine sp_eF ?_ ?_); decide; conv => whnf)
    | ((with_reducible refine sp_eT ?_); conv => whnf)
    | ((with_reducible refine sp_e (fun h => ?_) (fun h => ?_)) <;> first | contradiction | (subst h; conv => whnf) | (conv => whnf))
    | ((with_reducible refine sp_e' (fun h => ?_) (fun h => ?_)) <;> first | contradiction | (subst h; conv => whnf) | (conv => whnf))
    | ((with_reducible refine sp_n (fun h => ?_) (fun h => ?_)) <;> first | contradiction | (subst h; conv => whnf) | (conv => whnf))
    | ((with_reducible refine sp_n' (fun h => ?_) (fun h => ?_)) <;> first | contradiction | (subst h; conv => whnf) | (conv => whnf))
    | ((with_reducible refine sp_nb (fun h => ?_) (fun h => ?_)) <;> first | (exact Bool.noConfusion (Eq.trans (Eq.symm h) (show _ = true by with_reducible assumption))) | (exact Bool.noConfusion (Eq.trans (Eq.symm (show _ = false by with_reducible assumption)) h)) | (conv => whnf))
    | ((with_reducible refine sp_nb' (fun h => ?_) (fun h => ?_)) <;> first | (exact Bool.noConfusion (Eq.trans (Eq.symm h) (show _ = true by with_reducible assumption))) | (exact Bool.noConfusion (Eq.trans (Eq.symm (show _ = false by with_reducible assumption)) h)) | (conv => whnf))
    | ((with_reducible refine sp_b (fun h => ?_) (fun h => ?_)) <;> first | (exact Bool.noConfusion (Eq.trans (Eq.symm h) (show _ = true by with_reducible assumption))) | (exact Bool.noConfusion (Eq.trans (Eq.symm (show _ = false by with_reducible assumption)) h)) | (conv => whnf))
    | ((with_reducible refine sp_b' (fun h => ?_) (fun h => ?_)) <;> first | (exact Bool.noConfusion (Eq.trans (Eq.symm h) (show _ = true by with_reducible assumption))) | (exact Bool.noConfusion (Eq.trans (Eq.symm (show _ = false by with_reducible assumption)) h)) | (conv => whnf))
    | (refine ⟨(rfl : nodupB _ = true), rfl, ?_⟩; conv => whnf)
    | (with_reducible refine bnd2 ?_ ?_)
    | (with_reducible refine bnd2' ?_ ?_)
    | (with_reducible refine bndN ?_ ?_)
    | ((with_reducible refine and_of ?_ ?_); conv => whnf)
    | (refine Exists.intro ({k : Nat // k ≤ ts.length}) (Exists.intro (fun ⟨k, hk⟩ => mkS Try.f38.ntmps [(1, .dat (.seq .intss ts)), (2, .dat (.i fuel)), (3, .ptr 3 0), (7, .row 107), (20, .dat (.seq .intss ts)), (21, .dat (.i ts.length)), (22, .dat (.i k))] [(3, .box [.dat (.i w), .dat (.i mem), .dat (.i inn), .dat (.seq .inss c)]), (107, .row 3 .ints (asc (allTo ⟨w, mem, inn, c⟩ ts fuel k)) false)]) (Exists.intro (fun ⟨k, hk⟩ => ts.length - k) (Exists.intro ⟨0, Nat.zero_le _⟩ (And.intro (SubP.sub (σ := [(3, some 3), (107, some 19)]) ⟨⟨rfl, rfl, rfl⟩, ⟨(wk_dat ?_), (wk_dat ?_), ⟨rfl, rfl⟩, rfl, (wk_dat ?_), (wk_dat ?_), (wk_dat ?_), trivial⟩, ⟨⟨(wkC_dat ?_), (wkC_dat ?_), (wkC_dat ?_), (wkC_dat ?_), trivial⟩, ⟨⟨rfl, rfl⟩, ?_⟩, trivial⟩⟩) (fun ⟨k, hk⟩ => ?_))))); rotate_right; conv => whnf)
    | (refine Exists.intro ⟨k + 1, ?_⟩ (And.intro ?_ (SubP.sub (σ := [(3, some 3), (107, some 31000)]) ⟨⟨rfl, rfl, rfl⟩, ⟨(wk_dat ?_), (wk_dat ?_), ⟨rfl, rfl⟩, rfl, (wk_dat ?_), (wk_dat ?_), (wk_dat ?_), trivial⟩, ⟨⟨(wkC_dat ?_), (wkC_dat ?_), (wkC_dat ?_), (wkC_dat ?_), trivial⟩, ⟨⟨rfl, rfl⟩, ?_⟩, trivial⟩⟩)))
    | ((with_reducible refine pcI (g := 93) ?_); refine ⟨_, s_l09Tests .., rfl, ?_⟩; rotate_right; conv => whnf)
    | ((with_reducible show Exists _); refine Exists.intro _ (And.intro (s_l09Tests ..) (And.intro rfl ?_)); rotate_right; conv => whnf)
    | ((with_reducible refine pcI (g := 63) ?_); refine ⟨_, s_l01In .., rfl, ?_⟩; rotate_right; conv => whnf)
    | ((with_reducible show Exists _); refine Exists.intro _ (And.intro (s_l01In ..) (And.intro rfl ?_)); rotate_right; conv => whnf)
    | ((with_reducible refine gcI (g := 94) ?_); refine ⟨_, _, s_CoverN (hp := by assumption) (hi := by assumption) (hf := by assumption) .., fun res B hRB => ?_⟩; rotate_right; obtain ⟨rfl, rfl⟩ := hRB; conv => whnf)
    | ((with_reducible refine gcI (g := 94) ?_); refine ⟨_, _, s_CoverG (hp := by assumption) (hi := by assumption) (hf := by assumption) (hl := ?_) .., fun res B hRB => ?_⟩; rotate_right; obtain ⟨rfl, rfl⟩ := hRB; conv => whnf)
    | ((with_reducible refine gcI (g := 94) ?_); refine ⟨_, _, s_CoverG (hp := ?_) (hi := ?_) (hf := ?_) (hl := ?_) .., fun res B hRB => ?_⟩; rotate_right; obtain ⟨rfl, rfl⟩ := hRB; conv => whnf)
    | ((with_reducible show awpOps _ _ _ _ _ _); conv => whnf)
    | (intro h; conv => whnf))
  all_goals (repeat (clear hK; clear K1))
  all_goals first
    | (with_reducible rfl)
    | (with_reducible assumption)
    | omega
    | (dsimp only; omega)
    | exact inp_p (all_at h3 (by with_reducible assumption))
    | exact all_at h3 (by with_reducible assumption)
    | (rw [Int.toNat_natCast]; exact all_at h3 (by with_reducible assumption))
    | exact congrArg (Dat.int .i64) (wrap_id (by omega) (by omega)).symm
    | exact sig_fin (cal_step _ ts fuel k)
    | exact sig_fin asc_nil
    | (have q := asc80 (all_rng (fuel := fuel) h3 k hk); show (asc (allTo ⟨w, mem, inn, c⟩ ts fuel k)).length ≤ 1000000; omega)
    | exact row_fin (by rw [show k = ts.length from by omega])
    | exact rfl
    | skip
set_option maxRecDepth 100000 in
theorem i_Cal0 (w mem inn : Int) (c : List V.Ins) (ts : List (List Int)) (fuel : Int) (hx : calOk ⟨w, mem, inn, c⟩ ts fuel = false) : CallsV Try.prog 41 [.agg [.dat (.i w), .dat (.i mem), .dat (.i inn), .dat (.seq .inss c)], .dat (.seq .intss ts), .dat (.i fuel)] (.nils) := by
  refine CallsV.of_awp tauOk mixOk Try.func41 rfl rfl rfl ?_
  conv => whnf
  repeat' (first
    | ((with_reducible refine Alt.l ?_); conv => whnf)
    | ((with_reducible refine fun (K1 : AX → AState → Prop) hK => ?_); conv => whnf)
    | ((with_reducible show K1 _ _); subst hK; conv => whnf)
    | (with_reducible exact rfl)
    | ((with_reducible refine sp_T ?_); conv => whnf)
    | ((with_reducible refine sp_F ?_); conv => whnf)
    | ((with_reducible refine sp_T' ?_); conv => whnf)
    | ((with_reducible refine sp_F' ?_); conv => whnf)
    | ((with_reducible refine sp_dF ?_ ?_); decide; conv => whnf)
    | ((with_reducible refine sp_dT ?_ ?_); decide; conv => whnf)
    | ((with_reducible refine sp_d (fun h => ?_) (fun h => ?_)) <;> first | contradiction | (subst h; conv => whnf) | (conv => whnf))
    | ((with_reducible refine sp_d' (fun h => ?_) (fun h => ?_)) <;> first | contradiction | (subst h; conv => whnf) | (conv => whnf))
    | ((with_reducible refine sp_eF ?_ ?_); decide; conv => whnf)
    | ((with_reducible refine sp_eT ?_); conv => whnf)
    | ((with_reducible refine sp_e (fun h => ?_) (fun h => ?_)) <;> first | contradiction | (subst h; conv => whnf) | (conv => whnf))
    | ((with_reducible refine sp_e' (fun h => ?_) (fun h => ?_)) <;> first | contradiction | (subst h; conv => whnf) | (conv => whnf))
    | ((with_reducible refine sp_n (fun h => ?_) (fun h => ?_)) <;> first | contradiction | (subst h; conv => whnf) | (conv => whnf))
    | ((with_reducible refine sp_n' (fun h => ?_) (fun h => ?_)) <;> first | contradiction | (subst h; conv => whnf) | (conv => whnf))
    | ((with_reducible refine sp_nb (fun h => ?_) (fun h => ?_)) <;> first | (exact Bool.noConfusion (Eq.trans (Eq.symm h) (show _ = true by with_reducible assumption))) | (exact Bool.noConfusion (Eq.trans (Eq.symm (show _ = false by with_reducible assumption)) h)) | (conv => whnf))
    | ((with_reducible refine sp_nb' (fun h => ?_) (fun h => ?_)) <;> first | (exact Bool.noConfusion (Eq.trans (Eq.symm h) (show _ = true by with_reducible assumption))) | (exact Bool.noConfusion (Eq.trans (Eq.symm (show _ = false by with_reducible assumption)) h)) | (conv => whnf))
    | ((with_reducible refine sp_b (fun h => ?_) (fun h => ?_)) <;> first | (exact Bool.noConfusion (Eq.trans (Eq.symm h) (show _ = true by with_reducible assumption))) | (exact Bool.noConfusion (Eq.trans (Eq.symm (show _ = false by with_reducible assumption)) h)) | (conv => whnf))
    | ((with_reducible refine sp_b' (fun h => ?_) (fun h => ?_)) <;> first | (exact Bool.noConfusion (Eq.trans (Eq.symm h) (show _ = true by with_reducible assumption))) | (exact Bool.noConfusion (Eq.trans (Eq.symm (show _ = false by with_reducible assumption)) h)) | (conv => whnf))
    | (refine ⟨(rfl : nodupB _ = true), rfl, ?_⟩; conv => whnf)
    | (with_reducible refine bnd2 ?_ ?_)
    | (with_reducible refine bnd2' ?_ ?_)
    | (with_reducible refine bndN ?_ ?_)
    | ((with_reducible refine and_of ?_ ?_); conv => whnf)
    | ((with_reducible refine pcI (g := 66) ?_); refine ⟨_, i_testsOk .., rfl, ?_⟩; rotate_right; conv => whnf)
    | ((with_reducible show Exists _); refine Exists.intro _ (And.intro (i_testsOk ..) (And.intro rfl ?_)); rotate_right; conv => whnf)
    | ((with_reducible refine pcI (g := 67) ?_); refine ⟨_, i_fuelOk .., rfl, ?_⟩; rotate_right; conv => whnf)
    | ((with_reducible show Exists _); refine Exists.intro _ (And.intro (i_fuelOk ..) (And.intro rfl ?_)); rotate_right; conv => whnf)
    | ((with_reducible refine fcI (g := 97) ?_); refine ⟨_, _, i_edgesOf (hp := by assumption) (hi := by assumption) (hf := by assumption) .., rfl, fun res B hRB => ?_⟩; rotate_right; obtain ⟨rfl, rfl⟩ := hRB; conv => whnf)
    | ((with_reducible refine fcI (g := 97) ?_); refine ⟨_, _, i_edgesOf (hp := ?_) (hi := ?_) (hf := ?_) .., rfl, fun res B hRB => ?_⟩; rotate_right; obtain ⟨rfl, rfl⟩ := hRB; conv => whnf)
    | ((with_reducible refine gcI (g := 90) ?_); refine ⟨_, _, i_ascending (hl := ?_) .., fun res B hRB => ?_⟩; rotate_right; obtain ⟨rfl, rfl⟩ := hRB; conv => whnf)
    | ((with_reducible show awpOps _ _ _ _ _ _); conv => whnf)
    | (intro h; conv => whnf))
  all_goals (repeat (clear hK; clear K1))
  all_goals first | (with_reducible exact trivial) | (exfalso; simp only [calOk, *, Bool.and_self] at hx; exact Bool.noConfusion hx) | skip
set_option maxRecDepth 100000 in
theorem s_Cal0 (w mem inn : Int) (c : List V.Ins) (ts : List (List Int)) (fuel : Int) (hx : calOk ⟨w, mem, inn, c⟩ ts fuel = false) : CallsV Try.prog 38 [.agg [.dat (.i w), .dat (.i mem), .dat (.i inn), .dat (.seq .inss c)], .dat (.seq .intss ts), .dat (.i fuel)] (.nils) := by
  refine CallsV.of_awp tauOk mixOk Try.func38 rfl rfl rfl ?_
  conv => whnf
  repeat' (first
    | ((with_reducible refine Alt.l ?_); conv => whnf)
    | ((with_reducible refine fun (K1 : AX → AState → Prop) hK => ?_); conv => whnf)
    | ((with_reducible show K1 _ _); subst hK; conv => whnf)
    | (with_reducible exact rfl)
    | ((with_reducible refine sp_T ?_); conv => whnf)
    | ((with_reducible refine sp_F ?_); conv => whnf)
    | ((with_reducible refine sp_T' ?_); conv => whnf)
    | ((with_reducible refine sp_F' ?_); conv => whnf)
    | ((with_reducible refine sp_dF ?_ ?_); decide; conv => whnf)
    | ((with_reducible refine sp_dT ?_ ?_); decide; conv => whnf)
    | ((with_reducible refine sp_d (fun h => ?_) (fun h => ?_)) <;> first | contradiction | (subst h; conv => whnf) | (conv => whnf))
    | ((with_reducible refine sp_d' (fun h => ?_) (fun h => ?_)) <;> first | contradiction | (subst h; conv => whnf) | (conv => whnf))
    | ((with_reducible refine sp_eF ?_ ?_); decide; conv => whnf)
    | ((with_reducible refine sp_eT ?_); conv => whnf)
    | ((with_reducible refine sp_e (fun h => ?_) (fun h => ?_)) <;> first | contradiction | (subst h; conv => whnf) | (conv => whnf))
    | ((with_reducible refine sp_e' (fun h => ?_) (fun h => ?_)) <;> first | contradiction | (subst h; conv => whnf) | (conv => whnf))
    | ((with_reducible refine sp_n (fun h => ?_) (fun h => ?_)) <;> first | contradiction | (subst h; conv => whnf) | (conv => whnf))
    | ((with_reducible refine sp_n' (fun h => ?_) (fun h => ?_)) <;> first | contradiction | (subst h; conv => whnf) | (conv => whnf))
    | ((with_reducible refine sp_nb (fun h => ?_) (fun h => ?_)) <;> first | (exact Bool.noConfusion (Eq.trans (Eq.symm h) (show _ = true by with_reducible assumption))) | (exact Bool.noConfusion (Eq.trans (Eq.symm (show _ = false by with_reducible assumption)) h)) | (conv => whnf))
    | ((with_reducible refine sp_nb' (fun h => ?_) (fun h => ?_)) <;> first | (exact Bool.noConfusion (Eq.trans (Eq.symm h) (show _ = true by with_reducible assumption))) | (exact Bool.noConfusion (Eq.trans (Eq.symm (show _ = false by with_reducible assumption)) h)) | (conv => whnf))
    | ((with_reducible refine sp_b (fun h => ?_) (fun h => ?_)) <;> first | (exact Bool.noConfusion (Eq.trans (Eq.symm h) (show _ = true by with_reducible assumption))) | (exact Bool.noConfusion (Eq.trans (Eq.symm (show _ = false by with_reducible assumption)) h)) | (conv => whnf))
    | ((with_reducible refine sp_b' (fun h => ?_) (fun h => ?_)) <;> first | (exact Bool.noConfusion (Eq.trans (Eq.symm h) (show _ = true by with_reducible assumption))) | (exact Bool.noConfusion (Eq.trans (Eq.symm (show _ = false by with_reducible assumption)) h)) | (conv => whnf))
    | (refine ⟨(rfl : nodupB _ = true), rfl, ?_⟩; conv => whnf)
    | (with_reducible refine bnd2 ?_ ?_)
    | (with_reducible refine bnd2' ?_ ?_)
    | (with_reducible refine bndN ?_ ?_)
    | ((with_reducible refine and_of ?_ ?_); conv => whnf)
    | ((with_reducible refine pcI (g := 93) ?_); refine ⟨_, s_l09Tests .., rfl, ?_⟩; rotate_right; conv => whnf)
    | ((with_reducible show Exists _); refine Exists.intro _ (And.intro (s_l09Tests ..) (And.intro rfl ?_)); rotate_right; conv => whnf)
    | ((with_reducible refine pcI (g := 63) ?_); refine ⟨_, s_l01In .., rfl, ?_⟩; rotate_right; conv => whnf)
    | ((with_reducible show Exists _); refine Exists.intro _ (And.intro (s_l01In ..) (And.intro rfl ?_)); rotate_right; conv => whnf)
    | ((with_reducible refine gcI (g := 94) ?_); refine ⟨_, _, s_CoverN (hp := by assumption) (hi := by assumption) (hf := by assumption) .., fun res B hRB => ?_⟩; rotate_right; obtain ⟨rfl, rfl⟩ := hRB; conv => whnf)
    | ((with_reducible refine gcI (g := 94) ?_); refine ⟨_, _, s_CoverG (hp := by assumption) (hi := by assumption) (hf := by assumption) (hl := ?_) .., fun res B hRB => ?_⟩; rotate_right; obtain ⟨rfl, rfl⟩ := hRB; conv => whnf)
    | ((with_reducible refine gcI (g := 94) ?_); refine ⟨_, _, s_CoverG (hp := ?_) (hi := ?_) (hf := ?_) (hl := ?_) .., fun res B hRB => ?_⟩; rotate_right; obtain ⟨rfl, rfl⟩ := hRB; conv => whnf)
    | ((with_reducible show awpOps _ _ _ _ _ _); conv => whnf)
    | (intro h; conv => whnf))
  all_goals (repeat (clear hK; clear K1))
  all_goals first | (with_reducible exact trivial) | (exfalso; simp only [calOk, *, Bool.and_self] at hx; exact Bool.noConfusion hx) | skip
end Vg
