/- The law FnMutants: its contract. Condition: none but those of the law. -/
import Derived.Test.YtnjkencoohaheaaMutP
import Derived.Test.YtnjkencoohaheaaEqs
namespace Vg
open Go Go.Proofs
abbrev fmT (b : List Int) (w inn : Int) : List (List Int) := [givL w b 60 inn.toNat, givL w b 64 inn.toNat]
set_option maxRecDepth 100000 in
theorem eq_Ins : AggEq Try.prog 35 4 := aggEq4 (T := 35) (t := 3) rfl rfl (by kernel_rfl) (by kernel_rfl) rfl (by decide) ⟨rfl, rfl, rfl, rfl⟩ ⟨rfl, rfl, rfl, rfl⟩
theorem fmT_ok {w mem inn : Int} {c : List V.Ins} (b : List Int) (hp : progP ⟨w, mem, inn, c⟩ = true) : (fmT b w inn).all (fun x => inputsP ⟨w, mem, inn, c⟩ x) = true := by
  have h1 := giv_ok b 60 hp
  have h2 := giv_ok b 64 hp
  simp only at h1 h2
  simp only [List.all_cons, List.all_nil, h1, h2, Bool.and_self]
theorem fmT_at {w mem inn : Int} {c : List V.Ins} {b : List Int} {j : Nat} (hp : progP ⟨w, mem, inn, c⟩ = true) (hj : (j : Int) < (fmT b w inn).length) : inputsP ⟨w, mem, inn, c⟩ ((fmT b w inn).getD (j : Int).toNat K.intss.dflt) = true := by
  rw [Int.toNat_natCast]; exact all_at (fmT_ok b hp) hj
theorem fmT_q {p q : V.Prog} {ts : List (List Int)} (h : MutI p q) (ht : ts.all (fun x => inputsP p x) = true) : ts.all (fun x => inputsP q x) = true := by
  rw [List.all_eq_true] at ht ⊢
  exact fun x hx => mut_inputs h (ht x hx)
theorem mut_atI {w mem inn : Int} {c : List V.Ins} {k : Nat} (hp : progP ⟨w, mem, inn, c⟩ = true) (hk : (k : Int) < (mutsP ⟨w, mem, inn, c⟩).length) : MutI ⟨w, mem, inn, c⟩ ((mutsP ⟨w, mem, inn, c⟩).getD (k : Int).toNat K.progs.dflt) := by
  rw [Int.toNat_natCast]; exact mut_at hp hk
theorem fuF (b : List Int) : inP (sizeX b 70 0 40) 0 400 = true := by
  have := sizeX_r b 70 (lo := 0) (hi := 40) (by decide)
  simp [inP]; omega
theorem diff_y {a c : List V.Ins} {i : Nat} (hi : i ≤ 40) (h : decide ([(a.getD (i : Int).toNat K.inss.dflt).op, (a.getD (i : Int).toNat K.inss.dflt).a, (a.getD (i : Int).toNat K.inss.dflt).b, (a.getD (i : Int).toNat K.inss.dflt).c] = [(c.getD (i : Int).toNat K.inss.dflt).op, (c.getD (i : Int).toNat K.inss.dflt).a, (c.getD (i : Int).toNat K.inss.dflt).b, (c.getD (i : Int).toNat K.inss.dflt).c]) = false) :
    Dat.i (diffTo a c (i + 1) : Nat) = Dat.int .i64 (IntKind.i64.wrap ((diffTo a c i : Nat) + 1)) := by
  have h1 := diff_le a c i
  rw [wrap_id (by omega) (by omega)]
  have h' := of_decide_eq_false h
  rw [Int.toNat_natCast] at h'
  simp only [diffTo]
  rw [if_neg (fun e => h' (by rw [e]))]; rfl
theorem diff_n {a c : List V.Ins} {i : Nat} (h : decide ([(a.getD (i : Int).toNat K.inss.dflt).op, (a.getD (i : Int).toNat K.inss.dflt).a, (a.getD (i : Int).toNat K.inss.dflt).b, (a.getD (i : Int).toNat K.inss.dflt).c] = [(c.getD (i : Int).toNat K.inss.dflt).op, (c.getD (i : Int).toNat K.inss.dflt).a, (c.getD (i : Int).toNat K.inss.dflt).b, (c.getD (i : Int).toNat K.inss.dflt).c]) = true) :
    Dat.i (diffTo a c (i + 1) : Nat) = Dat.i (diffTo a c i : Nat) := by
  have h' := of_decide_eq_true h
  rw [Int.toNat_natCast] at h'
  simp only [List.cons.injEq, and_true] at h'
  have e : a.getD i K.inss.dflt = c.getD i K.inss.dflt := by
    generalize a.getD i K.inss.dflt = x at h' ⊢
    generalize c.getD i K.inss.dflt = y at h' ⊢
    obtain ⟨x0, x1, x2, x3⟩ := x
    obtain ⟨y0, y1, y2, y3⟩ := y
    simp only at h'
    obtain ⟨rfl, rfl, rfl, rfl⟩ := h'
    rfl
  simp only [diffTo]
  rw [if_pos e]; rfl
theorem found_y' {l : List Int} {x : Int} {m : Nat} (h : x ∈ l.take m) : Dat.bool (decide (x ∈ l.take (m + 1))) = Dat.bool true := found_y (decide_eq_true h)
theorem found_n' {l : List Int} {x : Int} {m : Nat} (h : ¬ x ∈ l.take m) (hm : (m : Int) < l.length) : Dat.bool (decide (x ∈ l.take (m + 1))) = Dat.bool (l.getD (m : Int).toNat K.ints.dflt == x) := found_n (decide_eq_false h) hm
theorem mut_no {w mem inn : Int} {c : List V.Ins} {k : Nat} (hp : progP ⟨w, mem, inn, c⟩ = true) (hk : (k : Int) < (mutsP ⟨w, mem, inn, c⟩).length) (h : progP ⟨((mutsP ⟨w, mem, inn, c⟩).getD (k : Int).toNat K.progs.dflt).w, ((mutsP ⟨w, mem, inn, c⟩).getD (k : Int).toNat K.progs.dflt).mem, ((mutsP ⟨w, mem, inn, c⟩).getD (k : Int).toNat K.progs.dflt).inn, ((mutsP ⟨w, mem, inn, c⟩).getD (k : Int).toNat K.progs.dflt).code⟩ = false) : False :=
  Bool.noConfusion ((mut_atI hp hk).ok.symm.trans h)
theorem sc_end {w mem inn : Int} {c : List V.Ins} {ts : List (List Int)} {fuel : Int} {k : Nat} (hk : k ≤ (mutsP ⟨w, mem, inn, c⟩).length) (h : ¬ (k : Int) < (mutsP ⟨w, mem, inn, c⟩).length) (h' : ¬ ((scoreTo ⟨w, mem, inn, c⟩ ts fuel (mutsP ⟨w, mem, inn, c⟩) (mutsP ⟨w, mem, inn, c⟩).length : Nat) : Int) = (scoreTo ⟨w, mem, inn, c⟩ ts fuel (mutsP ⟨w, mem, inn, c⟩) k : Nat)) : False := by
  obtain rfl : k = (mutsP ⟨w, mem, inn, c⟩).length := by omega
  exact h' rfl
theorem beq_self' (x : Int) : Dat.bool true = Dat.bool (x == x) := by simp
theorem diff_one {w mem inn : Int} {c : List V.Ins} {k i : Nat} (hp : progP ⟨w, mem, inn, c⟩ = true) (hk : (k : Int) < (mutsP ⟨w, mem, inn, c⟩).length) (hi : i ≤ c.length) (h : ¬ (i : Int) < c.length) (h1 : ¬ ((diffTo ((mutsP ⟨w, mem, inn, c⟩).getD (k : Int).toNat K.progs.dflt).code c i : Nat) : Int) = 1) : False := by
  have := (mut_atI hp hk).one
  simp only at this
  rw [show i = c.length from by omega] at h1
  exact h1 (by rw [this]; rfl)
theorem kills_P {p q : V.Prog} {ts : List (List Int)} {fuel : Int} (h1 : MutI p q) (hp : progP p = true) (h2 : ts.all (fun x => inputsP p x) = true) (h3 : inP fuel 0 400 = true) : killsP p q ts fuel = killsTo p q ts fuel ts.length := by
  unfold killsP killOk
  rw [hp, h1.ok, h2, fmT_q h1 h2, h3]; rfl
theorem scoreF_y {w mem inn : Int} {c : List V.Ins} {b : List Int} {k : Nat} (hp : progP ⟨w, mem, inn, c⟩ = true) (hk : (k : Int) < (mutsP ⟨w, mem, inn, c⟩).length)
    (h : ((killsTo ⟨w, mem, inn, c⟩ ⟨((mutsP ⟨w, mem, inn, c⟩).getD (k : Int).toNat K.progs.dflt).w, ((mutsP ⟨w, mem, inn, c⟩).getD (k : Int).toNat K.progs.dflt).mem, ((mutsP ⟨w, mem, inn, c⟩).getD (k : Int).toNat K.progs.dflt).inn, ((mutsP ⟨w, mem, inn, c⟩).getD (k : Int).toNat K.progs.dflt).code⟩ (fmT b w inn) (sizeX b 70 0 40) (fmT b w inn).length).length : Int) > 0) :
    Dat.i (scoreTo ⟨w, mem, inn, c⟩ (fmT b w inn) (sizeX b 70 0 40) (mutsP ⟨w, mem, inn, c⟩) (k + 1) : Nat) = Dat.int .i64 (IntKind.i64.wrap ((scoreTo ⟨w, mem, inn, c⟩ (fmT b w inn) (sizeX b 70 0 40) (mutsP ⟨w, mem, inn, c⟩) k : Nat) + 1)) := by
  have h1 := scoreTo_le ⟨w, mem, inn, c⟩ (fmT b w inn) (sizeX b 70 0 40) (mutsP ⟨w, mem, inn, c⟩) k
  have h2 := mutsP_len ⟨w, mem, inn, c⟩
  rw [wrap_id (by omega) (by omega), scoreTo_yes ?_]
  · rfl
  · rw [kills_P (mut_at hp hk) hp (fmT_ok b hp) (fuF b)]
    rw [Int.toNat_natCast] at h; exact h
theorem scoreF_n {w mem inn : Int} {c : List V.Ins} {b : List Int} {k : Nat} (hp : progP ⟨w, mem, inn, c⟩ = true) (hk : (k : Int) < (mutsP ⟨w, mem, inn, c⟩).length)
    (h : ¬ ((killsTo ⟨w, mem, inn, c⟩ ⟨((mutsP ⟨w, mem, inn, c⟩).getD (k : Int).toNat K.progs.dflt).w, ((mutsP ⟨w, mem, inn, c⟩).getD (k : Int).toNat K.progs.dflt).mem, ((mutsP ⟨w, mem, inn, c⟩).getD (k : Int).toNat K.progs.dflt).inn, ((mutsP ⟨w, mem, inn, c⟩).getD (k : Int).toNat K.progs.dflt).code⟩ (fmT b w inn) (sizeX b 70 0 40) (fmT b w inn).length).length : Int) > 0) :
    Dat.i (scoreTo ⟨w, mem, inn, c⟩ (fmT b w inn) (sizeX b 70 0 40) (mutsP ⟨w, mem, inn, c⟩) (k + 1) : Nat) = Dat.i (scoreTo ⟨w, mem, inn, c⟩ (fmT b w inn) (sizeX b 70 0 40) (mutsP ⟨w, mem, inn, c⟩) k : Nat) := by
  rw [scoreTo_no ?_]
  rw [kills_P (mut_at hp hk) hp (fmT_ok b hp) (fuF b)]
  rw [Int.toNat_natCast] at h; exact h
theorem fm_KillsOf (w mem inn : Int) (c : List V.Ins) (w' mem' inn' : Int) (c' : List V.Ins) (ts : List (List Int)) (fuel : Int) (h1 : progP ⟨w, mem, inn, c⟩ = true) (h2 : progP ⟨w', mem', inn', c'⟩ = true) (h3 : ts.all (fun x => inputsP ⟨w, mem, inn, c⟩ x) = true) (h4 : ts.all (fun x => inputsP ⟨w', mem', inn', c'⟩ x) = true) (h5 : inP fuel 0 400 = true) (hl : ts.length ≤ 1048576) :
    CallsF Try.prog 15 [.agg [.dat (.i w), .dat (.i mem), .dat (.i inn), .dat (.seq .inss c)], .agg [.dat (.i w'), .dat (.i mem'), .dat (.i inn'), .dat (.seq .inss c')], .dat (.seq .intss ts), .dat (.i fuel)] true (fun res B => res = .row 0 ∧ B = [.row 3 .ints (killsTo ⟨w, mem, inn, c⟩ ⟨w', mem', inn', c'⟩ ts fuel ts.length) false]) :=
  i_KillsOf1 w mem inn c w' mem' inn' c' ts fuel h1 h2 h3 h4 h5 hl
set_option maxHeartbeats 8000000 in
set_option maxRecDepth 100000 in
theorem law_FM (b : List Int) : CallsV Try.prog 3 [.dat (.seq .bytes b)] (.dat (.bool true)) := by
  refine CallsV.of_awp tauOk mixOk Try.func3 rfl rfl rfl ?_
  conv => whnf
  repeat' (first
    | ((with_reducible refine Alt.l ?_); conv => whnf)
    | ((with_reducible refine fun (K1 : AX → AState → Prop) hK => ?_); conv => whnf)
    | ((with_reducible show K1 _ _); subst hK; conv => whnf)
    | (with_reducible exact rfl)
    | ((with_reducible refine sp_T ?_); conv => whnf)
    | ((with_reducible refine sp_F ?_); conv => whnf)
    | ((with_reducible refine sp_T' ?_); conv => whnf)
    | ((with_reducible refine sp_F' ?_); conv => whnf)
    | ((with_reducible refine sp_dF ?_ ?_); decide; conv => whnf)
    | ((with_reducible refine sp_dT ?_ ?_); decide; conv => whnf)
    | ((with_reducible refine sp_d (fun h => ?_) (fun h => ?_)) <;> first | contradiction | (subst h; conv => whnf) | (conv => whnf))
    | ((with_reducible refine sp_d' (fun h => ?_) (fun h => ?_)) <;> first | contradiction | (subst h; conv => whnf) | (conv => whnf))
    | ((with_reducible refine sp_eF ?_ ?_); decide; conv => whnf)
    | ((with_reducible refine sp_eT ?_); conv => whnf)
    | ((with_reducible refine sp_e (fun h => ?_) (fun h => ?_)) <;> first | contradiction | (subst h; conv => whnf) | (conv => whnf))
    | ((with_reducible refine sp_e' (fun h => ?_) (fun h => ?_)) <;> first | contradiction | (subst h; conv => whnf) | (conv => whnf))
    | ((with_reducible refine sp_n (fun h => ?_) (fun h => ?_)) <;> first | contradiction | (subst h; conv => whnf) | (conv => whnf))
    | ((with_reducible refine sp_n' (fun h => ?_) (fun h => ?_)) <;> first | contradiction | (subst h; conv => whnf) | (conv => whnf))
    | ((with_reducible refine sp_nb (fun h => ?_) (fun h => ?_)) <;> first | (exact Bool.noConfusion (Eq.trans (Eq.symm h) (show _ = true by with_reducible assumption))) | (exact Bool.noConfusion (Eq.trans (Eq.symm (show _ = false by with_reducible assumption)) h)) | (conv => whnf))
    | ((with_reducible refine sp_nb' (fun h => ?_) (fun h => ?_)) <;> first | (exact Bool.noConfusion (Eq.trans (Eq.symm h) (show _ = true by with_reducible assumption))) | (exact Bool.noConfusion (Eq.trans (Eq.symm (show _ = false by with_reducible assumption)) h)) | (conv => whnf))
    | ((with_reducible refine sp_b (fun h => ?_) (fun h => ?_)) <;> first | (exact Bool.noConfusion (Eq.trans (Eq.symm h) (show _ = true by with_reducible assumption))) | (exact Bool.noConfusion (Eq.trans (Eq.symm (show _ = false by with_reducible assumption)) h)) | (conv => whnf))
    | ((with_reducible refine sp_b' (fun h => ?_) (fun h => ?_)) <;> first | (exact Bool.noConfusion (Eq.trans (Eq.symm h) (show _ = true by with_reducible assumption))) | (exact Bool.noConfusion (Eq.trans (Eq.symm (show _ = false by with_reducible assumption)) h)) | (conv => whnf))
    | (refine ⟨(rfl : nodupB _ = true), rfl, ?_⟩; conv => whnf)
    | (with_reducible refine bnd2 ?_ ?_)
    | (with_reducible refine bnd2' ?_ ?_)
    | (with_reducible refine bndN ?_ ?_)
    | ((with_reducible refine and_of ?_ ?_); conv => whnf)
    | ((with_reducible show AggEq _ _ _); exact eq_Ins)
    | (refine Exists.intro ({m : Nat // m ≤ (killsTo ⟨w, mem, inn, code⟩ ⟨((mutsP ⟨w, mem, inn, code⟩).getD ((k : Nat) : Int).toNat K.progs.dflt).w, ((mutsP ⟨w, mem, inn, code⟩).getD ((k : Nat) : Int).toNat K.progs.dflt).mem, ((mutsP ⟨w, mem, inn, code⟩).getD ((k : Nat) : Int).toNat K.progs.dflt).inn, ((mutsP ⟨w, mem, inn, code⟩).getD ((k : Nat) : Int).toNat K.progs.dflt).code⟩ (fmT b w inn) (sizeX b 70 0 40) (fmT b w inn).length).length}) (Exists.intro (fun ⟨m, hm⟩ => mkS Try.f3.ntmps [(3, .ptr 3 0), (4, .dat (.seq .progs (mutsP ⟨w, mem, inn, code⟩))), (5, .row 105), (6, .dat (.i (sizeX b 70 0 40))), (7, .dat (.i (scoreTo ⟨w, mem, inn, code⟩ (fmT b w inn) (sizeX b 70 0 40) (mutsP ⟨w, mem, inn, code⟩) k))), (44, .dat (.seq .progs (mutsP ⟨w, mem, inn, code⟩))), (45, .dat (.i (mutsP ⟨w, mem, inn, code⟩).length)), (46, .dat (.i k)), (9, .ptr 9 0), (13, .row 113), (108, .row 105), (109, .dat (.i (fmT b w inn).length)), (110, .dat (.i j)), (14, .dat (.i j)), (16, .dat (.bool (!sameRunP ⟨w, mem, inn, code⟩ ⟨((mutsP ⟨w, mem, inn, code⟩).getD ((k : Nat) : Int).toNat K.progs.dflt).w, ((mutsP ⟨w, mem, inn, code⟩).getD ((k : Nat) : Int).toNat K.progs.dflt).mem, ((mutsP ⟨w, mem, inn, code⟩).getD ((k : Nat) : Int).toNat K.progs.dflt).inn, ((mutsP ⟨w, mem, inn, code⟩).getD ((k : Nat) : Int).toNat K.progs.dflt).code⟩ ((fmT b w inn).getD j []) (sizeX b 70 0 40)))), (17, .dat (.bool (decide ((j : Int) ∈ (killsTo ⟨w, mem, inn, code⟩ ⟨((mutsP ⟨w, mem, inn, code⟩).getD ((k : Nat) : Int).toNat K.progs.dflt).w, ((mutsP ⟨w, mem, inn, code⟩).getD ((k : Nat) : Int).toNat K.progs.dflt).mem, ((mutsP ⟨w, mem, inn, code⟩).getD ((k : Nat) : Int).toNat K.progs.dflt).inn, ((mutsP ⟨w, mem, inn, code⟩).getD ((k : Nat) : Int).toNat K.progs.dflt).code⟩ (fmT b w inn) (sizeX b 70 0 40) (fmT b w inn).length).take m)))), (125, .row 113), (126, .dat (.i (killsTo ⟨w, mem, inn, code⟩ ⟨((mutsP ⟨w, mem, inn, code⟩).getD ((k : Nat) : Int).toNat K.progs.dflt).w, ((mutsP ⟨w, mem, inn, code⟩).getD ((k : Nat) : Int).toNat K.progs.dflt).mem, ((mutsP ⟨w, mem, inn, code⟩).getD ((k : Nat) : Int).toNat K.progs.dflt).inn, ((mutsP ⟨w, mem, inn, code⟩).getD ((k : Nat) : Int).toNat K.progs.dflt).code⟩ (fmT b w inn) (sizeX b 70 0 40) (fmT b w inn).length).length)), (127, .dat (.i m))] [(3, .box [.dat (.i w), .dat (.i mem), .dat (.i inn), .dat (.seq .inss code)]), (105, .row 29 .intss (fmT b w inn) false), (9, .box [.dat (.i ((mutsP ⟨w, mem, inn, code⟩).getD ((k : Nat) : Int).toNat K.progs.dflt).w), .dat (.i ((mutsP ⟨w, mem, inn, code⟩).getD ((k : Nat) : Int).toNat K.progs.dflt).mem), .dat (.i ((mutsP ⟨w, mem, inn, code⟩).getD ((k : Nat) : Int).toNat K.progs.dflt).inn), .dat (.seq .inss ((mutsP ⟨w, mem, inn, code⟩).getD ((k : Nat) : Int).toNat K.progs.dflt).code)]), (113, .row 3 .ints (killsTo ⟨w, mem, inn, code⟩ ⟨((mutsP ⟨w, mem, inn, code⟩).getD ((k : Nat) : Int).toNat K.progs.dflt).w, ((mutsP ⟨w, mem, inn, code⟩).getD ((k : Nat) : Int).toNat K.progs.dflt).mem, ((mutsP ⟨w, mem, inn, code⟩).getD ((k : Nat) : Int).toNat K.progs.dflt).inn, ((mutsP ⟨w, mem, inn, code⟩).getD ((k : Nat) : Int).toNat K.progs.dflt).code⟩ (fmT b w inn) (sizeX b 70 0 40) (fmT b w inn).length) false)]) (Exists.intro (fun ⟨m, hm⟩ => (killsTo ⟨w, mem, inn, code⟩ ⟨((mutsP ⟨w, mem, inn, code⟩).getD ((k : Nat) : Int).toNat K.progs.dflt).w, ((mutsP ⟨w, mem, inn, code⟩).getD ((k : Nat) : Int).toNat K.progs.dflt).mem, ((mutsP ⟨w, mem, inn, code⟩).getD ((k : Nat) : Int).toNat K.progs.dflt).inn, ((mutsP ⟨w, mem, inn, code⟩).getD ((k : Nat) : Int).toNat K.progs.dflt).code⟩ (fmT b w inn) (sizeX b 70 0 40) (fmT b w inn).length).length - m) (Exists.intro ⟨0, Nat.zero_le _⟩ (And.intro (SubP.sub (σ := [(3, some 3), (105, some 105), (9, some 9), (113, some 113)]) ⟨⟨rfl, rfl, rfl⟩, ⟨⟨rfl, rfl⟩, (wk_dat ?_), rfl, (wk_dat ?_), (wk_dat ?_), (wk_dat ?_), (wk_dat ?_), (wk_dat ?_), ⟨rfl, rfl⟩, rfl, rfl, (wk_dat ?_), (wk_dat ?_), (wk_dat ?_), (wk_dat ?_), (wk_dat ?_), rfl, (wk_dat ?_), (wk_dat ?_), trivial⟩, ⟨⟨(wkC_dat ?_), (wkC_dat ?_), (wkC_dat ?_), (wkC_dat ?_), trivial⟩, ⟨⟨rfl, rfl⟩, ?_⟩, ⟨(wkC_dat ?_), (wkC_dat ?_), (wkC_dat ?_), (wkC_dat ?_), trivial⟩, ⟨⟨rfl, rfl⟩, ?_⟩, trivial⟩⟩) (fun ⟨m, hm⟩ => ?_))))); rotate_right; conv => whnf)
    | (refine Exists.intro (⟨m + 1, ?_⟩ : {m : Nat // m ≤ (killsTo ⟨w, mem, inn, code⟩ ⟨((mutsP ⟨w, mem, inn, code⟩).getD ((k : Nat) : Int).toNat K.progs.dflt).w, ((mutsP ⟨w, mem, inn, code⟩).getD ((k : Nat) : Int).toNat K.progs.dflt).mem, ((mutsP ⟨w, mem, inn, code⟩).getD ((k : Nat) : Int).toNat K.progs.dflt).inn, ((mutsP ⟨w, mem, inn, code⟩).getD ((k : Nat) : Int).toNat K.progs.dflt).code⟩ (fmT b w inn) (sizeX b 70 0 40) (fmT b w inn).length).length}) (And.intro ?_ (SubP.sub (σ := [(3, some 3), (105, some 105), (9, some 9), (113, some 113)]) ⟨⟨rfl, rfl, rfl⟩, ⟨⟨rfl, rfl⟩, (wk_dat ?_), rfl, (wk_dat ?_), (wk_dat ?_), (wk_dat ?_), (wk_dat ?_), (wk_dat ?_), ⟨rfl, rfl⟩, rfl, rfl, (wk_dat ?_), (wk_dat ?_), (wk_dat ?_), (wk_dat ?_), (wk_dat ?_), rfl, (wk_dat ?_), (wk_dat ?_), trivial⟩, ⟨⟨(wkC_dat ?_), (wkC_dat ?_), (wkC_dat ?_), (wkC_dat ?_), trivial⟩, ⟨⟨rfl, rfl⟩, ?_⟩, ⟨(wkC_dat ?_), (wkC_dat ?_), (wkC_dat ?_), (wkC_dat ?_), trivial⟩, ⟨⟨rfl, rfl⟩, ?_⟩, trivial⟩⟩)))
    | (refine Exists.intro ({j : Nat // j ≤ (fmT b w inn).length}) (Exists.intro (fun ⟨j, hj⟩ => mkS Try.f3.ntmps [(3, .ptr 3 0), (4, .dat (.seq .progs (mutsP ⟨w, mem, inn, code⟩))), (5, .row 105), (6, .dat (.i (sizeX b 70 0 40))), (7, .dat (.i (scoreTo ⟨w, mem, inn, code⟩ (fmT b w inn) (sizeX b 70 0 40) (mutsP ⟨w, mem, inn, code⟩) k))), (44, .dat (.seq .progs (mutsP ⟨w, mem, inn, code⟩))), (45, .dat (.i (mutsP ⟨w, mem, inn, code⟩).length)), (46, .dat (.i k)), (9, .ptr 9 0), (13, .row 113), (108, .row 105), (109, .dat (.i (fmT b w inn).length)), (110, .dat (.i j))] [(3, .box [.dat (.i w), .dat (.i mem), .dat (.i inn), .dat (.seq .inss code)]), (105, .row 29 .intss (fmT b w inn) false), (9, .box [.dat (.i ((mutsP ⟨w, mem, inn, code⟩).getD ((k : Nat) : Int).toNat K.progs.dflt).w), .dat (.i ((mutsP ⟨w, mem, inn, code⟩).getD ((k : Nat) : Int).toNat K.progs.dflt).mem), .dat (.i ((mutsP ⟨w, mem, inn, code⟩).getD ((k : Nat) : Int).toNat K.progs.dflt).inn), .dat (.seq .inss ((mutsP ⟨w, mem, inn, code⟩).getD ((k : Nat) : Int).toNat K.progs.dflt).code)]), (113, .row 3 .ints (killsTo ⟨w, mem, inn, code⟩ ⟨((mutsP ⟨w, mem, inn, code⟩).getD ((k : Nat) : Int).toNat K.progs.dflt).w, ((mutsP ⟨w, mem, inn, code⟩).getD ((k : Nat) : Int).toNat K.progs.dflt).mem, ((mutsP ⟨w, mem, inn, code⟩).getD ((k : Nat) : Int).toNat K.progs.dflt).inn, ((mutsP ⟨w, mem, inn, code⟩).getD ((k : Nat) : Int).toNat K.progs.dflt).code⟩ (fmT b w inn) (sizeX b 70 0 40) (fmT b w inn).length) false)]) (Exists.intro (fun ⟨j, hj⟩ => (fmT b w inn).length - j) (Exists.intro ⟨0, Nat.zero_le _⟩ (And.intro (SubP.sub (σ := [(3, some 3), (105, some 105), (9, some 9), (113, some 108000)]) ⟨⟨rfl, rfl, rfl⟩, ⟨⟨rfl, rfl⟩, (wk_dat ?_), rfl, (wk_dat ?_), (wk_dat ?_), (wk_dat ?_), (wk_dat ?_), (wk_dat ?_), ⟨rfl, rfl⟩, rfl, rfl, (wk_dat ?_), (wk_dat ?_), trivial⟩, ⟨⟨(wkC_dat ?_), (wkC_dat ?_), (wkC_dat ?_), (wkC_dat ?_), trivial⟩, ⟨⟨rfl, rfl⟩, ?_⟩, ⟨(wkC_dat ?_), (wkC_dat ?_), (wkC_dat ?_), (wkC_dat ?_), trivial⟩, ⟨⟨rfl, rfl⟩, ?_⟩, trivial⟩⟩) (fun ⟨j, hj⟩ => ?_))))); rotate_right; conv => whnf)
    | (refine Exists.intro (⟨j + 1, ?_⟩ : {j : Nat // j ≤ (fmT b w inn).length}) (And.intro ?_ (SubP.sub (σ := [(3, some 3), (105, some 105), (9, some 9), (113, some 113)]) ⟨⟨rfl, rfl, rfl⟩, ⟨⟨rfl, rfl⟩, (wk_dat ?_), rfl, (wk_dat ?_), (wk_dat ?_), (wk_dat ?_), (wk_dat ?_), (wk_dat ?_), ⟨rfl, rfl⟩, rfl, rfl, (wk_dat ?_), (wk_dat ?_), trivial⟩, ⟨⟨(wkC_dat ?_), (wkC_dat ?_), (wkC_dat ?_), (wkC_dat ?_), trivial⟩, ⟨⟨rfl, rfl⟩, ?_⟩, ⟨(wkC_dat ?_), (wkC_dat ?_), (wkC_dat ?_), (wkC_dat ?_), trivial⟩, ⟨⟨rfl, rfl⟩, ?_⟩, trivial⟩⟩)))
    | (refine Exists.intro ({i : Nat // i ≤ code.length}) (Exists.intro (fun ⟨i, hi⟩ => mkS Try.f3.ntmps [(3, .ptr 3 0), (4, .dat (.seq .progs (mutsP ⟨w, mem, inn, code⟩))), (5, .row 105), (6, .dat (.i (sizeX b 70 0 40))), (7, .dat (.i (scoreTo ⟨w, mem, inn, code⟩ (fmT b w inn) (sizeX b 70 0 40) (mutsP ⟨w, mem, inn, code⟩) k))), (44, .dat (.seq .progs (mutsP ⟨w, mem, inn, code⟩))), (45, .dat (.i (mutsP ⟨w, mem, inn, code⟩).length)), (46, .dat (.i k)), (9, .ptr 9 0), (10, .dat (.i (diffTo ((mutsP ⟨w, mem, inn, code⟩).getD ((k : Nat) : Int).toNat K.progs.dflt).code code i))), (84, .dat (.seq .inss code)), (85, .dat (.i code.length)), (86, .dat (.i i))] [(3, .box [.dat (.i w), .dat (.i mem), .dat (.i inn), .dat (.seq .inss code)]), (105, .row 29 .intss (fmT b w inn) false), (9, .box [.dat (.i ((mutsP ⟨w, mem, inn, code⟩).getD ((k : Nat) : Int).toNat K.progs.dflt).w), .dat (.i ((mutsP ⟨w, mem, inn, code⟩).getD ((k : Nat) : Int).toNat K.progs.dflt).mem), .dat (.i ((mutsP ⟨w, mem, inn, code⟩).getD ((k : Nat) : Int).toNat K.progs.dflt).inn), .dat (.seq .inss ((mutsP ⟨w, mem, inn, code⟩).getD ((k : Nat) : Int).toNat K.progs.dflt).code)])]) (Exists.intro (fun ⟨i, hi⟩ => code.length - i) (Exists.intro ⟨0, Nat.zero_le _⟩ (And.intro (SubP.sub (σ := [(3, some 3), (105, some 105), (9, some 9)]) ⟨⟨rfl, rfl, rfl⟩, ⟨⟨rfl, rfl⟩, (wk_dat ?_), rfl, (wk_dat ?_), (wk_dat ?_), (wk_dat ?_), (wk_dat ?_), (wk_dat ?_), ⟨rfl, rfl⟩, (wk_dat ?_), (wk_dat ?_), (wk_dat ?_), (wk_dat ?_), trivial⟩, ⟨⟨(wkC_dat ?_), (wkC_dat ?_), (wkC_dat ?_), (wkC_dat ?_), trivial⟩, ⟨⟨rfl, rfl⟩, ?_⟩, ⟨(wkC_dat ?_), (wkC_dat ?_), (wkC_dat ?_), (wkC_dat ?_), trivial⟩, trivial⟩⟩) (fun ⟨i, hi⟩ => ?_))))); rotate_right; conv => whnf)
    | (refine Exists.intro (⟨i + 1, ?_⟩ : {i : Nat // i ≤ code.length}) (And.intro ?_ (SubP.sub (σ := [(3, some 3), (105, some 105), (9, some 9)]) ⟨⟨rfl, rfl, rfl⟩, ⟨⟨rfl, rfl⟩, (wk_dat ?_), rfl, (wk_dat ?_), (wk_dat ?_), (wk_dat ?_), (wk_dat ?_), (wk_dat ?_), ⟨rfl, rfl⟩, (wk_dat ?_), (wk_dat ?_), (wk_dat ?_), (wk_dat ?_), trivial⟩, ⟨⟨(wkC_dat ?_), (wkC_dat ?_), (wkC_dat ?_), (wkC_dat ?_), trivial⟩, ⟨⟨rfl, rfl⟩, ?_⟩, ⟨(wkC_dat ?_), (wkC_dat ?_), (wkC_dat ?_), (wkC_dat ?_), trivial⟩, trivial⟩⟩)))
    | (refine Exists.intro ({k : Nat // k ≤ (mutsP ⟨w, mem, inn, code⟩).length}) (Exists.intro (fun ⟨k, hk⟩ => mkS Try.f3.ntmps [(3, .ptr 3 0), (4, .dat (.seq .progs (mutsP ⟨w, mem, inn, code⟩))), (5, .row 105), (6, .dat (.i (sizeX b 70 0 40))), (7, .dat (.i (scoreTo ⟨w, mem, inn, code⟩ (fmT b w inn) (sizeX b 70 0 40) (mutsP ⟨w, mem, inn, code⟩) k))), (44, .dat (.seq .progs (mutsP ⟨w, mem, inn, code⟩))), (45, .dat (.i (mutsP ⟨w, mem, inn, code⟩).length)), (46, .dat (.i k))] [(3, .box [.dat (.i w), .dat (.i mem), .dat (.i inn), .dat (.seq .inss code)]), (105, .row 29 .intss (fmT b w inn) false)]) (Exists.intro (fun ⟨k, hk⟩ => (mutsP ⟨w, mem, inn, code⟩).length - k) (Exists.intro ⟨0, Nat.zero_le _⟩ (And.intro (SubP.sub (σ := [(3, some 3), (105, some 41)]) ⟨⟨rfl, rfl, rfl⟩, ⟨⟨rfl, rfl⟩, (wk_dat ?_), rfl, (wk_dat ?_), (wk_dat ?_), (wk_dat ?_), (wk_dat ?_), (wk_dat ?_), trivial⟩, ⟨⟨(wkC_dat ?_), (wkC_dat ?_), (wkC_dat ?_), (wkC_dat ?_), trivial⟩, ⟨⟨rfl, rfl⟩, ?_⟩, trivial⟩⟩) (fun ⟨k, hk⟩ => ?_))))); rotate_right; conv => whnf)
    | (refine Exists.intro (⟨k + 1, ?_⟩ : {k : Nat // k ≤ (mutsP ⟨w, mem, inn, code⟩).length}) (And.intro ?_ (SubP.sub (σ := [(3, some 3), (105, some 105)]) ⟨⟨rfl, rfl, rfl⟩, ⟨⟨rfl, rfl⟩, (wk_dat ?_), rfl, (wk_dat ?_), (wk_dat ?_), (wk_dat ?_), (wk_dat ?_), (wk_dat ?_), trivial⟩, ⟨⟨(wkC_dat ?_), (wkC_dat ?_), (wkC_dat ?_), (wkC_dat ?_), trivial⟩, ⟨⟨rfl, rfl⟩, ?_⟩, trivial⟩⟩)))
    | ((with_reducible refine fcI (g := 9) ?_); refine ⟨_, _, c_GiveProgram (hn := ?_) (hl := by with_reducible assumption) .., rfl, fun res B hRB => ?_⟩; rotate_right; obtain ⟨⟨w, mem, inn, code, rfl, hp⟩, rfl⟩ := hRB; conv => whnf)
    | ((with_reducible show Exists _); refine Exists.intro _ (And.intro (i_MutantsOf (hp := by assumption) ..) (And.intro rfl ?_)); rotate_right; conv => whnf)
    | ((with_reducible show Exists _); refine Exists.intro _ (And.intro (i_MutantsOf0 (hp := by assumption) ..) (And.intro rfl ?_)); rotate_right; conv => whnf)
    | ((with_reducible refine pcI (g := 10) ?_); refine ⟨_, iv_MutantsOf .., rfl, ?_⟩; rotate_right; conv => whnf)
    | ((with_reducible show Exists _); refine Exists.intro _ (And.intro (iv_MutantsOf ..) (And.intro rfl ?_)); rotate_right; conv => whnf)
    | ((with_reducible show Exists _); refine Exists.intro _ (And.intro (s_MutantsOf (hp := by assumption) ..) (And.intro rfl ?_)); rotate_right; conv => whnf)
    | ((with_reducible show Exists _); refine Exists.intro _ (And.intro (s_MutantsOf0 (hp := by assumption) ..) (And.intro rfl ?_)); rotate_right; conv => whnf)
    | ((with_reducible refine pcI (g := 11) ?_); refine ⟨_, sv_MutantsOf .., rfl, ?_⟩; rotate_right; conv => whnf)
    | ((with_reducible show Exists _); refine Exists.intro _ (And.intro (sv_MutantsOf ..) (And.intro rfl ?_)); rotate_right; conv => whnf)
    | ((with_reducible refine pcI (g := 12) ?_); refine ⟨_, v_GiveInputs (hn := ?_) (hl := by assumption) (h1 := ?_) .., rfl, ?_⟩; rotate_right; conv => whnf)
    | ((with_reducible show Exists _); refine Exists.intro _ (And.intro (v_GiveInputs (hn := ?_) (hl := by assumption) (h1 := ?_) ..) (And.intro rfl ?_)); rotate_right; conv => whnf)
    | ((with_reducible refine pcI (g := 13) ?_); refine ⟨_, c_GiveSize (hn := ?_) (h1 := ?_) (h2 := ?_) (h3 := ?_) (hl := ?_) .., rfl, ?_⟩; rotate_right; conv => whnf)
    | ((with_reducible show Exists _); refine Exists.intro _ (And.intro (c_GiveSize (hn := ?_) (h1 := ?_) (h2 := ?_) (h3 := ?_) (hl := ?_) ..) (And.intro rfl ?_)); rotate_right; conv => whnf)
    | ((with_reducible refine pcI (g := 14) ?_); refine ⟨_, s_ProgramOk .., rfl, ?_⟩; rotate_right; conv => whnf)
    | ((with_reducible show Exists _); refine Exists.intro _ (And.intro (s_ProgramOk ..) (And.intro rfl ?_)); rotate_right; conv => whnf)
    | ((with_reducible show Exists _); refine Exists.intro _ (And.intro (i_KillsOf0 (hk := by assumption) ..) (And.intro rfl ?_)); rotate_right; conv => whnf)
    | ((with_reducible show Exists _); refine Exists.intro _ (And.intro (iv_KillsOf (hl := ?_) ..) (And.intro rfl ?_)); rotate_right; conv => whnf)
    | ((with_reducible refine fcI (g := 15) ?_); refine ⟨_, _, fm_KillsOf (h1 := by assumption) (h2 := ?_) (h3 := ?_) (h4 := ?_) (h5 := ?_) (hl := ?_) .., rfl, fun res B hRB => ?_⟩; rotate_right; obtain ⟨rfl, rfl⟩ := hRB; conv => whnf)
    | ((with_reducible refine pcI (g := 16) ?_); refine ⟨_, s_SameRun .., rfl, ?_⟩; rotate_right; conv => whnf)
    | ((with_reducible show Exists _); refine Exists.intro _ (And.intro (s_SameRun ..) (And.intro rfl ?_)); rotate_right; conv => whnf)
    | ((with_reducible show Exists _); refine Exists.intro _ (And.intro (s_RunProgram1 (hp := by assumption) (hi := by assumption) (h0 := by assumption) (h1 := by assumption) ..) (And.intro rfl ?_)); rotate_right; conv => whnf)
    | ((with_reducible refine pcI (g := 17) ?_); refine ⟨_, s_RunProgram (hi := ?_) (h0 := ?_) (h1 := ?_) .., rfl, ?_⟩; rotate_right; conv => whnf)
    | ((with_reducible show Exists _); refine Exists.intro _ (And.intro (s_RunProgram (hi := ?_) (h0 := ?_) (h1 := ?_) ..) (And.intro rfl ?_)); rotate_right; conv => whnf)
    | ((with_reducible refine pcI (g := 18) ?_); refine ⟨_, i_ScoreOf (hl := ?_) .., rfl, ?_⟩; rotate_right; conv => whnf)
    | ((with_reducible show Exists _); refine Exists.intro _ (And.intro (i_ScoreOf (hl := ?_) ..) (And.intro rfl ?_)); rotate_right; conv => whnf)
    | ((with_reducible show awpOps _ _ _ _ _ _); conv => whnf)
    | (intro h; conv => whnf))
  all_goals (repeat (clear hK; clear K1))
  all_goals first
    | (with_reducible assumption)
    | decide
    | exact eq_Ins
    | exact fmT_ok b hp
    | exact fmT_q (mut_atI hp (by with_reducible assumption)) (fmT_ok b hp)
    | exact fuF b
    | exact (mut_atI hp (by with_reducible assumption)).ok
    | exact fmT_at hp (by with_reducible assumption)
    | exact mut_inputs (mut_atI hp (by with_reducible assumption)) (fmT_at hp (by with_reducible assumption))
    | exact diff_y (by have := prog_c hp; omega) (by with_reducible assumption)
    | exact diff_n (by with_reducible assumption)
    | exact (diff_one hp (by with_reducible assumption) hi (by with_reducible assumption) (by with_reducible assumption)).elim
    | exact scoreF_y hp (by with_reducible assumption) (by with_reducible assumption)
    | exact scoreF_n hp (by with_reducible assumption) (by with_reducible assumption)
    | exact found_y (by with_reducible assumption)
    | exact found_n (by with_reducible assumption) (by with_reducible assumption)
    | exact found_y' (by with_reducible assumption)
    | exact found_n' (by with_reducible assumption) (by with_reducible assumption)
    | exact found_0 _ _
    | exact (mut_no hp (by with_reducible assumption) (by with_reducible assumption)).elim
    | exact (sc_end hk (by with_reducible assumption) (by with_reducible assumption)).elim
    | exact beq_self' _
    | exact (kill_due (by with_reducible assumption) (by with_reducible assumption) (by with_reducible assumption)).elim
    | (exfalso; have q := (mut_atI hp (by with_reducible assumption)).ok; exact Bool.noConfusion (q.symm.trans (by with_reducible assumption)))
    | (exfalso; exact absurd (mut_atI hp (by with_reducible assumption)).w (by with_reducible assumption))
    | (exfalso; exact absurd (mut_atI hp (by with_reducible assumption)).mem (by with_reducible assumption))
    | (exfalso; exact absurd (mut_atI hp (by with_reducible assumption)).inn (by with_reducible assumption))
    | (exfalso; exact absurd (congrArg (Nat.cast : Nat → Int) (mut_atI hp (by with_reducible assumption)).len) (by with_reducible assumption))
    | exact congrArg (Dat.int .i64) (wrap_succ (by with_reducible assumption) (by with_reducible assumption)).symm
    | exact congrArg (Dat.int .i64) (wrap_id (by omega) (by omega)).symm
    | (show ([_, _] : List (List Int)).length ≤ 1048576; simp only [List.length_cons, List.length_nil]; omega)
    | exact rfl
    | (have q := (sizeX_r b 70 (lo := 0) (hi := 40) (by decide)); omega)
    | (have q := (prog_in hp); simp only at q; omega)
    | (have q := mutsP_len ⟨w, mem, inn, code⟩; have q2 := prog_c hp; omega)
    | omega
    | (dsimp only; omega)
    | skip
end Vg
