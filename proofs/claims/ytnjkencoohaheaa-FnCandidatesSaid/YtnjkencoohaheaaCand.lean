/- Facts that hold of all states: contracts of CandidateFacts. Condition: the program and the states are in order. -/
import Derived.Test.YtnjkencoohaheaaStat
namespace Vg
open Go Go.Proofs
def tryP (w : Int) (l : List V.State) (f : V.Fact) : Bool := factP w f && l.all (fun s => trueP w f s.regs)
def nnP (w : Int) : Nat := 2 ^ w.toNat
def nTo (w : Int) (l : List V.State) (k a b : Int) : Nat → List V.Fact
  | 0 => []
  | n + 1 => nTo w l k a b n ++ (if tryP w l ⟨k, a, b, (n : Nat)⟩ = true then [⟨k, a, b, (n : Nat)⟩] else [])
def nAll (w : Int) (l : List V.State) (k a b : Int) : List V.Fact := if k = 3 then (nTo w l k a b (nnP w)).take 1 else nTo w l k a b (nnP w)
def bTo (w : Int) (l : List V.State) (k a : Int) : Nat → List V.Fact
  | 0 => []
  | b + 1 => bTo w l k a b ++ nAll w l k a (b : Nat)
def aTo (w : Int) (l : List V.State) (k : Int) : Nat → List V.Fact
  | 0 => []
  | a + 1 => aTo w l k a ++ bTo w l k (a : Nat) 8
def kTo (w : Int) (l : List V.State) : Nat → List V.Fact
  | 0 => []
  | k + 1 => kTo w l k ++ aTo w l ((k + 1 : Nat) : Int) 4
def candOk (p : V.Prog) (l : List V.State) : Bool := progP p && (decide (0 < l.length) && l.all (fun s => stateP p s))
theorem nTo_len (w : Int) (l : List V.State) (k a b : Int) (n : Nat) : (nTo w l k a b n).length ≤ n := by
  induction n with
  | zero => simp [nTo]
  | succ n ih => simp only [nTo, List.length_append]; split <;> simp <;> omega
theorem nAll_len (w : Int) (l : List V.State) (k a b : Int) : (nAll w l k a b).length ≤ nnP w := by
  unfold nAll
  have := nTo_len w l k a b (nnP w)
  split
  · rw [List.length_take]; omega
  · exact this
theorem bTo_len (w : Int) (l : List V.State) (k a : Int) (b : Nat) : (bTo w l k a b).length ≤ b * nnP w := by
  induction b with
  | zero => simp [bTo]
  | succ b ih => have := nAll_len w l k a (b : Nat); simp only [bTo, List.length_append, Nat.add_mul]; omega
theorem aTo_len (w : Int) (l : List V.State) (k : Int) (a : Nat) : (aTo w l k a).length ≤ a * (8 * nnP w) := by
  induction a with
  | zero => simp [aTo]
  | succ a ih => have := bTo_len w l k (a : Nat) 8; simp only [aTo, List.length_append, Nat.add_mul]; omega
theorem kTo_len (w : Int) (l : List V.State) (k : Nat) : (kTo w l k).length ≤ k * (4 * (8 * nnP w)) := by
  induction k with
  | zero => simp [kTo]
  | succ k ih => have := aTo_len w l ((k + 1 : Nat) : Int) 4; simp only [kTo, List.length_append, Nat.add_mul]; omega
theorem nnP_le {p : V.Prog} (h : progP p = true) : nnP p.w ≤ 256 := by
  have := progP_r h
  have : p.w.toNat ≤ 8 := by omega
  exact Nat.le_trans (Nat.pow_le_pow_right (by decide) this) (by decide)
theorem nnP_int (w : Int) : ((nnP w : Nat) : Int) = 2 ^ w.toNat := by simp [nnP]
theorem out_len {w mem inn : Int} {c : List V.Ins} (hp : progP ⟨w, mem, inn, c⟩ = true) (l : List V.State) {k a b n : Nat} (hk : k ≤ 6) (ha : a ≤ 4) (hb : b ≤ 8) (hn : n ≤ nnP w) {k' a' b' : Int} :
    (((kTo w l k ++ aTo w l k' a) ++ bTo w l k' a' b) ++ nTo w l k' a' b' n).length ≤ 70000 := by
  have h0 := nnP_le hp
  have h1 := kTo_len w l k
  have h2 := aTo_len w l k' a
  have h3 := bTo_len w l k' a' b
  have h4 := nTo_len w l k' a' b' n
  simp only at h0
  have e1 : k * (4 * (8 * nnP w)) ≤ 6 * (4 * (8 * 256)) := Nat.mul_le_mul hk (by omega)
  have e2 : a * (8 * nnP w) ≤ 4 * (8 * 256) := Nat.mul_le_mul ha (by omega)
  have e3 : b * nnP w ≤ 8 * 256 := Nat.mul_le_mul hb h0
  simp only [List.length_append]
  omega
theorem nTo_yes {w : Int} {l : List V.State} {k a b : Int} {n : Nat} (h : tryP w l ⟨k, a, b, (n : Nat)⟩ = true) : nTo w l k a b (n + 1) = nTo w l k a b n ++ [⟨k, a, b, (n : Nat)⟩] := by simp only [nTo, if_pos h]
theorem nTo_no {w : Int} {l : List V.State} {k a b : Int} {n : Nat} (h : tryP w l ⟨k, a, b, (n : Nat)⟩ = false) : nTo w l k a b (n + 1) = nTo w l k a b n := by simp only [nTo, h, Bool.false_eq_true, if_false, List.append_nil]
theorem nTo_pre {w : Int} {l : List V.State} {k a b : Int} (n m : Nat) : ∃ t, nTo w l k a b (n + m) = nTo w l k a b n ++ t := by
  induction m with
  | zero => exact ⟨[], by simp⟩
  | succ m ih =>
    obtain ⟨t, ht⟩ := ih
    exact ⟨_, by rw [← Nat.add_assoc]; simp only [nTo]; rw [ht, List.append_assoc]⟩
theorem b_end {w : Int} {l : List V.State} {k a : Int} {b n : Nat} {P : List V.Fact} (h : ¬ (n : Int) < (nnP w : Nat)) (hn : n ≤ nnP w) (hk : k = 3 → nTo w l k a (b : Nat) n = []) :
    P ++ bTo w l k a (b + 1) = (P ++ bTo w l k a b) ++ nTo w l k a (b : Nat) n := by
  have e : n = nnP w := by omega
  subst e
  have : nAll w l k a (b : Nat) = nTo w l k a (b : Nat) (nnP w) := by
    unfold nAll
    split
    · rename_i h3; rw [hk h3]; rfl
    · rfl
  rw [List.append_assoc, ← this]; rfl
theorem b_brk {w : Int} {l : List V.State} {k a : Int} {b n : Nat} {P : List V.Fact} (h : (n : Int) < (nnP w : Nat)) (h3 : k = 3) (hk : k = 3 → nTo w l k a (b : Nat) n = []) (ht : tryP w l ⟨k, a, (b : Nat), (n : Nat)⟩ = true) :
    P ++ bTo w l k a (b + 1) = ((P ++ bTo w l k a b) ++ nTo w l k a (b : Nat) n) ++ [⟨k, a, (b : Nat), (n : Nat)⟩] := by
  obtain ⟨t, e⟩ := nTo_pre (w := w) (l := l) (k := k) (a := a) (b := (b : Nat)) (n + 1) (nnP w - (n + 1))
  rw [show n + 1 + (nnP w - (n + 1)) = nnP w from by omega, nTo_yes ht, hk h3, List.nil_append] at e
  have : nAll w l k a (b : Nat) = [⟨k, a, (b : Nat), (n : Nat)⟩] := by
    unfold nAll
    rw [if_pos h3, e]; rfl
  rw [hk h3, List.append_nil, List.append_assoc, ← this]; rfl
theorem n_yes {w : Int} {l : List V.State} {k a b : Int} {n : Nat} {P : List V.Fact} (h : tryP w l ⟨k, a, b, (n : Nat)⟩ = true) : P ++ nTo w l k a b (n + 1) = P ++ nTo w l k a b n ++ [⟨k, a, b, (n : Nat)⟩] := by rw [nTo_yes h, List.append_assoc]
theorem n_no {w : Int} {l : List V.State} {k a b : Int} {n : Nat} {P : List V.Fact} (h : tryP w l ⟨k, a, b, (n : Nat)⟩ = false) : P ++ nTo w l k a b (n + 1) = P ++ nTo w l k a b n := by rw [nTo_no h]
theorem a_end {w : Int} {l : List V.State} {k : Int} {a b : Nat} {P : List V.Fact} (h : ¬ (b : Int) < 8) (hb : b ≤ 8) : P ++ aTo w l k (a + 1) = (P ++ aTo w l k a) ++ bTo w l k (a : Nat) b := by
  rw [show b = 8 from by omega, List.append_assoc]; rfl
theorem k_end {w : Int} {l : List V.State} {k a : Nat} (h : ¬ (a : Int) < 4) (ha : a ≤ 4) : kTo w l (k + 1) = kTo w l k ++ aTo w l ((k + 1 : Nat) : Int) a := by
  rw [show a = 4 from by omega]; rfl
theorem all_at {α : Type} {f : α → Bool} {l : List α} {j : Nat} {d : α} (hs : l.all f = true) (h : (j : Int) < l.length) : f (l.getD (j : Int).toNat d) = true := by
  have h' : j < l.length := by omega
  rw [Int.toNat_natCast, List.getD_eq_getElem?_getD, List.getElem?_eq_getElem h']
  exact List.all_eq_true.1 hs _ (List.getElem_mem h')
theorem cand_of {p : V.Prog} {l : List V.State} (h : candOk p l = true) : progP p = true ∧ 0 < l.length ∧ l.all (fun s => stateP p s) = true := by simpa [candOk] using h
theorem state_regs {p : V.Prog} {s : V.State} (h : stateP p s = true) : s.regs.length = 4 := by simp [stateP] at h; omega
theorem cand_regs {p : V.Prog} {l : List V.State} (h : l.all (fun s => stateP p s) = true) : ∀ s ∈ l, s.regs.length = 4 := fun s hs => state_regs (List.all_eq_true.1 h s hs)
theorem regs_at {l : List V.State} {j : Nat} (h : (j : Int) < l.length) (hs : ∀ s ∈ l, s.regs.length = 4) : (l.getD (j : Int).toNat K.states.dflt).regs.length = 4 := by
  have h' : j < l.length := by omega
  rw [Int.toNat_natCast, List.getD_eq_getElem?_getD, List.getElem?_eq_getElem h']
  exact hs _ (List.getElem_mem h')
theorem try_f1 {w : Int} {l : List V.State} {f : V.Fact} (h : factP w f = false) : tryP w l f = false := by unfold tryP; rw [h]; rfl
theorem try_f2 {w : Int} {l : List V.State} {f : V.Fact} (h : (l.all fun s => trueP w f s.regs) = false) : tryP w l f = false := by unfold tryP; rw [h]; exact Bool.and_false _
theorem try_t {w : Int} {l : List V.State} {f : V.Fact} (h1 : factP w f = true) (h2 : (l.all fun s => trueP w f s.regs) = true) : tryP w l f = true := by unfold tryP; rw [h1, h2]; rfl
set_option maxHeartbeats 1000000 in
set_option maxRecDepth 100000 in
theorem i_holdsIn (w k a b n : Int) (l : List V.State) (hw : inP w 1 16 = true) (hf : factP w ⟨k, a, b, n⟩ = true) (hs : ∀ s ∈ l, s.regs.length = 4) : CallsV Try.prog 84 [.dat (.i w), .agg [.dat (.i k), .dat (.i a), .dat (.i b), .dat (.i n)], .dat (.seq .states l)] (.dat (.bool (l.all fun s => trueP w ⟨k, a, b, n⟩ s.regs))) := by
  refine CallsV.of_awp tauOk mixOk Try.func84 rfl rfl rfl ?_
  conv => whnf
  repeat' (first
    | ((with_reducible refine Alt.l ?_); conv => whnf)
    | ((with_reducible refine fun (K1 : AX → AState → Prop) hK => ?_); conv => whnf)
    | ((with_reducible show K1 _ _); subst hK; conv => whnf)
    | (with_reducible exact rfl)
    | ((with_reducible refine sp_T ?_); conv => whnf)
    | ((with_reducible refine sp_F ?_); conv => whnf)
    | ((with_reducible refine sp_T' ?_); conv => whnf)
    | ((with_reducible refine sp_F' ?_); conv => whnf)
    | ((with_reducible refine sp_dF ?_ ?_); decide; conv => whnf)
    | ((with_reducible refine sp_dT ?_ ?_); decide; conv => whnf)
    | ((with_reducible refine sp_d (fun h => ?_) (fun h => ?_)) <;> first | contradiction | (subst h; conv => whnf) | (conv => whnf))
    | ((with_reducible refine sp_d' (fun h => ?_) (fun h => ?_)) <;> first | contradiction | (subst h; conv => whnf) | (conv => whnf))
    | ((with_reducible refine sp_eF ?_ ?_); decide; conv => whnf)
    | ((with_reducible refine sp_eT ?_); conv => whnf)
    | ((with_reducible refine sp_e (fun h => ?_) (fun h => ?_)) <;> first | contradiction | (subst h; conv => whnf) | (conv => whnf))
    | ((with_reducible refine sp_e' (fun h => ?_) (fun h => ?_)) <;> first | contradiction | (subst h; conv => whnf) | (conv => whnf))
    | ((with_reducible refine sp_n (fun h => ?_) (fun h => ?_)) <;> first | contradiction | (subst h; conv => whnf) | (conv => whnf))
    | ((with_reducible refine sp_n' (fun h => ?_) (fun h => ?_)) <;> first | contradiction | (subst h; conv => whnf) | (conv => whnf))
    | ((with_reducible refine sp_nb (fun h => ?_) (fun h => ?_)) <;> first | contradiction | (exact Bool.noConfusion (Eq.trans (Eq.symm h) (show _ = true by assumption))) | (exact Bool.noConfusion (Eq.trans (Eq.symm (show _ = false by assumption)) h)) | (conv => whnf))
    | ((with_reducible refine sp_nb' (fun h => ?_) (fun h => ?_)) <;> first | contradiction | (exact Bool.noConfusion (Eq.trans (Eq.symm h) (show _ = true by assumption))) | (exact Bool.noConfusion (Eq.trans (Eq.symm (show _ = false by assumption)) h)) | (conv => whnf))
    | ((with_reducible refine sp_b (fun h => ?_) (fun h => ?_)) <;> first | contradiction | (exact Bool.noConfusion (Eq.trans (Eq.symm h) (show _ = true by assumption))) | (exact Bool.noConfusion (Eq.trans (Eq.symm (show _ = false by assumption)) h)) | (conv => whnf))
    | ((with_reducible refine sp_b' (fun h => ?_) (fun h => ?_)) <;> first | contradiction | (exact Bool.noConfusion (Eq.trans (Eq.symm h) (show _ = true by assumption))) | (exact Bool.noConfusion (Eq.trans (Eq.symm (show _ = false by assumption)) h)) | (conv => whnf))
    | (refine ⟨(rfl : nodupB _ = true), rfl, ?_⟩; conv => whnf)
    | (with_reducible refine bnd2 ?_ ?_)
    | (with_reducible refine bnd2' ?_ ?_)
    | (with_reducible refine bndN ?_ ?_)
    | ((with_reducible refine and_of ?_ ?_); conv => whnf)
    | (refine Exists.intro ({j : Nat // (l.take j).all (fun s => trueP w ⟨k, a, b, n⟩ s.regs) = true}) (Exists.intro (fun ⟨j, hall⟩ => mkS Try.f84.ntmps [(0, .dat (.i w)), (4, .ptr 4 0), (9, .dat (.seq .states l)), (10, .dat (.i l.length)), (11, .dat (.i j))] [(4, .box [.dat (.i k), .dat (.i a), .dat (.i b), .dat (.i n)])]) (Exists.intro (fun ⟨j, hall⟩ => l.length - j) (Exists.intro ⟨0, rfl⟩ (And.intro (SubP.sub (σ := [(4, some 4)]) ⟨⟨rfl, rfl, rfl⟩, ⟨(wk_dat ?_), ⟨rfl, rfl⟩, (wk_dat ?_), (wk_dat ?_), (wk_dat ?_), trivial⟩, ⟨⟨(wkC_dat ?_), (wkC_dat ?_), (wkC_dat ?_), (wkC_dat ?_), trivial⟩, trivial⟩⟩) (fun ⟨j, hall⟩ => ?_))))); rotate_right; conv => whnf)
    | (refine Exists.intro ⟨j + 1, ?_⟩ (And.intro ?_ (SubP.sub (σ := [(4, some 4)]) ⟨⟨rfl, rfl, rfl⟩, ⟨(wk_dat ?_), ⟨rfl, rfl⟩, (wk_dat ?_), (wk_dat ?_), (wk_dat ?_), trivial⟩, ⟨⟨(wkC_dat ?_), (wkC_dat ?_), (wkC_dat ?_), (wkC_dat ?_), trivial⟩, trivial⟩⟩)))
    | ((with_reducible refine pcI (g := 87) ?_); refine ⟨_, i_factHolds (hw := ?_) (hf := ?_) (hl := ?_) .., rfl, ?_⟩; rotate_right; conv => whnf)
    | ((with_reducible show Exists _); refine Exists.intro _ (And.intro (i_factHolds (hw := ?_) (hf := ?_) (hl := ?_) ..) (And.intro rfl ?_)); rotate_right; conv => whnf)
    | ((with_reducible show awpOps _ _ _ _ _ _); conv => whnf)
    | (intro h; conv => whnf))
  all_goals (repeat (clear hK; clear K1))
  · exact congrArg Dat.bool (all_no (f := fun s : V.State => trueP w ⟨k, a, b, n⟩ s.regs) (k := j) (d := K.states.dflt) (by with_reducible assumption) h)
  · rw [all_step (K.dflt .states) (by with_reducible assumption), hall]; exact h
  · dsimp only; omega
  · exact congrArg (Dat.int .i64) (wrap_succ (by with_reducible assumption) (by with_reducible assumption)).symm
  · with_reducible assumption
  · with_reducible assumption
  · exact regs_at (by with_reducible assumption) hs
  · omega
  · with_reducible assumption
  · exact congrArg Dat.bool (all_end (by with_reducible assumption) hall)
  · rfl
set_option maxHeartbeats 4000000 in
set_option maxRecDepth 100000 in
theorem i_CandOk (w mem inn : Int) (c : List V.Ins) (l : List V.State) (hc : candOk ⟨w, mem, inn, c⟩ l = true) : CallsF Try.prog 23 [.agg [.dat (.i w), .dat (.i mem), .dat (.i inn), .dat (.seq .inss c)], .dat (.seq .states l)] true (fun res B => res = .row 0 ∧ B = [.row 49 .facts (kTo w l 6) false]) := by
  refine CallsF.of_awp tauOk mixOk Try.func23 rfl rfl rfl ?_
  conv => whnf
  repeat' (first
    | ((with_reducible refine Alt.l ?_); conv => whnf)
    | ((with_reducible refine fun (K1 : AX → AState → Prop) hK => ?_); conv => whnf)
    | ((with_reducible show K1 _ _); subst hK; conv => whnf)
    | (with_reducible exact rfl)
    | ((with_reducible refine sp_T ?_); conv => whnf)
    | ((with_reducible refine sp_F ?_); conv => whnf)
    | ((with_reducible refine sp_T' ?_); conv => whnf)
    | ((with_reducible refine sp_F' ?_); conv => whnf)
    | ((with_reducible refine sp_dF ?_ ?_); decide; conv => whnf)
    | ((with_reducible refine sp_dT ?_ ?_); decide; conv => whnf)
    | ((with_reducible refine sp_d (fun h => ?_) (fun h => ?_)) <;> first | contradiction | (subst h; conv => whnf) | (conv => whnf))
    | ((with_reducible refine sp_d' (fun h => ?_) (fun h => ?_)) <;> first | contradiction | (subst h; conv => whnf) | (conv => whnf))
    | ((with_reducible refine sp_eF ?_ ?_); decide; conv => whnf)
    | ((with_reducible refine sp_eT ?_); conv => whnf)
    | ((with_reducible refine sp_e (fun h => ?_) (fun h => ?_)) <;> first | contradiction | (subst h; conv => whnf) | (conv => whnf))
    | ((with_reducible refine sp_e' (fun h => ?_) (fun h => ?_)) <;> first | contradiction | (subst h; conv => whnf) | (conv => whnf))
    | ((with_reducible refine sp_n (fun h => ?_) (fun h => ?_)) <;> first | contradiction | (subst h; conv => whnf) | (conv => whnf))
    | ((with_reducible refine sp_n' (fun h => ?_) (fun h => ?_)) <;> first | contradiction | (subst h; conv => whnf) | (conv => whnf))
    | ((with_reducible refine sp_nb (fun h => ?_) (fun h => ?_)) <;> first | contradiction | (exact Bool.noConfusion (Eq.trans (Eq.symm h) (show _ = true by assumption))) | (exact Bool.noConfusion (Eq.trans (Eq.symm (show _ = false by assumption)) h)) | (conv => whnf))
    | ((with_reducible refine sp_nb' (fun h => ?_) (fun h => ?_)) <;> first | contradiction | (exact Bool.noConfusion (Eq.trans (Eq.symm h) (show _ = true by assumption))) | (exact Bool.noConfusion (Eq.trans (Eq.symm (show _ = false by assumption)) h)) | (conv => whnf))
    | ((with_reducible refine sp_b (fun h => ?_) (fun h => ?_)) <;> first | contradiction | (exact Bool.noConfusion (Eq.trans (Eq.symm h) (show _ = true by assumption))) | (exact Bool.noConfusion (Eq.trans (Eq.symm (show _ = false by assumption)) h)) | (conv => whnf))
    | ((with_reducible refine sp_b' (fun h => ?_) (fun h => ?_)) <;> first | contradiction | (exact Bool.noConfusion (Eq.trans (Eq.symm h) (show _ = true by assumption))) | (exact Bool.noConfusion (Eq.trans (Eq.symm (show _ = false by assumption)) h)) | (conv => whnf))
    | (refine ⟨(rfl : nodupB _ = true), rfl, ?_⟩; conv => whnf)
    | (with_reducible refine bnd2 ?_ ?_)
    | (with_reducible refine bnd2' ?_ ?_)
    | (with_reducible refine bndN ?_ ?_)
    | ((with_reducible refine and_of ?_ ?_); conv => whnf)
    | (refine Exists.intro ({n : Nat // n ≤ nnP w ∧ (((k + 1 : Nat) : Int) = 3 → nTo w l ((k + 1 : Nat) : Int) a b n = [])}) (Exists.intro (fun ⟨n, hn⟩ => mkS Try.f23.ntmps [(1, .dat (.seq .states l)), (2, .ptr 2 0), (7, .row 107), (8, .dat (.i ((k + 1 : Nat) : Int))), (9, .dat (.i a)), (10, .dat (.i b)), (11, .dat (.i n))] [(2, .box [.dat (.i w), .dat (.i mem), .dat (.i inn), .dat (.seq .inss c)]), (107, .row 49 .facts (((kTo w l k ++ aTo w l ((k + 1 : Nat) : Int) a) ++ bTo w l ((k + 1 : Nat) : Int) a b) ++ nTo w l ((k + 1 : Nat) : Int) a b n) false)]) (Exists.intro (fun ⟨n, hn⟩ => nnP w - n) (Exists.intro ⟨0, ⟨Nat.zero_le _, fun _ => rfl⟩⟩ (And.intro (SubP.sub (σ := [(2, some 2), (107, some 107)]) ⟨⟨rfl, rfl, rfl⟩, ⟨(wk_dat ?_), ⟨rfl, rfl⟩, rfl, (wk_dat ?_), (wk_dat ?_), (wk_dat ?_), (wk_dat ?_), trivial⟩, ⟨⟨(wkC_dat ?_), (wkC_dat ?_), (wkC_dat ?_), (wkC_dat ?_), trivial⟩, ⟨⟨rfl, rfl⟩, ?_⟩, trivial⟩⟩) (fun ⟨n, hn⟩ => ?_))))); rotate_right; conv => whnf)
    | (refine Exists.intro (⟨n + 1, ?_⟩ : {n : Nat // n ≤ nnP w ∧ (((k + 1 : Nat) : Int) = 3 → nTo w l ((k + 1 : Nat) : Int) a b n = [])}) (And.intro ?_ (SubP.sub (σ := [(2, some 2), (107, some 107)]) ⟨⟨rfl, rfl, rfl⟩, ⟨(wk_dat ?_), ⟨rfl, rfl⟩, rfl, (wk_dat ?_), (wk_dat ?_), (wk_dat ?_), (wk_dat ?_), trivial⟩, ⟨⟨(wkC_dat ?_), (wkC_dat ?_), (wkC_dat ?_), (wkC_dat ?_), trivial⟩, ⟨⟨rfl, rfl⟩, ?_⟩, trivial⟩⟩)))
    | (refine Exists.intro (⟨n + 1, ?_⟩ : {n : Nat // n ≤ nnP w ∧ (((k + 1 : Nat) : Int) = 3 → nTo w l ((k + 1 : Nat) : Int) a b n = [])}) (And.intro ?_ (SubP.sub (σ := [(2, some 2), (107, some 72)]) ⟨⟨rfl, rfl, rfl⟩, ⟨(wk_dat ?_), ⟨rfl, rfl⟩, rfl, (wk_dat ?_), (wk_dat ?_), (wk_dat ?_), (wk_dat ?_), trivial⟩, ⟨⟨(wkC_dat ?_), (wkC_dat ?_), (wkC_dat ?_), (wkC_dat ?_), trivial⟩, ⟨⟨rfl, rfl⟩, ?_⟩, trivial⟩⟩)))
    | (refine Exists.intro ({b : Nat // b ≤ 8}) (Exists.intro (fun ⟨b, hb⟩ => mkS Try.f23.ntmps [(1, .dat (.seq .states l)), (2, .ptr 2 0), (7, .row 107), (8, .dat (.i ((k + 1 : Nat) : Int))), (9, .dat (.i a)), (10, .dat (.i b))] [(2, .box [.dat (.i w), .dat (.i mem), .dat (.i inn), .dat (.seq .inss c)]), (107, .row 49 .facts ((kTo w l k ++ aTo w l ((k + 1 : Nat) : Int) a) ++ bTo w l ((k + 1 : Nat) : Int) a b) false)]) (Exists.intro (fun ⟨b, hb⟩ => 8 - b) (Exists.intro ⟨0, Nat.zero_le _⟩ (And.intro (SubP.sub (σ := [(2, some 2), (107, some 107)]) ⟨⟨rfl, rfl, rfl⟩, ⟨(wk_dat ?_), ⟨rfl, rfl⟩, rfl, (wk_dat ?_), (wk_dat ?_), (wk_dat ?_), trivial⟩, ⟨⟨(wkC_dat ?_), (wkC_dat ?_), (wkC_dat ?_), (wkC_dat ?_), trivial⟩, ⟨⟨rfl, rfl⟩, ?_⟩, trivial⟩⟩) (fun ⟨b, hb⟩ => ?_))))); rotate_right; conv => whnf)
    | (refine Exists.intro (⟨b + 1, ?_⟩ : {b : Nat // b ≤ 8}) (And.intro ?_ (SubP.sub (σ := [(2, some 2), (107, some 107)]) ⟨⟨rfl, rfl, rfl⟩, ⟨(wk_dat ?_), ⟨rfl, rfl⟩, rfl, (wk_dat ?_), (wk_dat ?_), (wk_dat ?_), trivial⟩, ⟨⟨(wkC_dat ?_), (wkC_dat ?_), (wkC_dat ?_), (wkC_dat ?_), trivial⟩, ⟨⟨rfl, rfl⟩, ?_⟩, trivial⟩⟩)))
    | (refine Exists.intro (⟨b + 1, ?_⟩ : {b : Nat // b ≤ 8}) (And.intro ?_ (SubP.sub (σ := [(2, some 2), (107, some 72)]) ⟨⟨rfl, rfl, rfl⟩, ⟨(wk_dat ?_), ⟨rfl, rfl⟩, rfl, (wk_dat ?_), (wk_dat ?_), (wk_dat ?_), trivial⟩, ⟨⟨(wkC_dat ?_), (wkC_dat ?_), (wkC_dat ?_), (wkC_dat ?_), trivial⟩, ⟨⟨rfl, rfl⟩, ?_⟩, trivial⟩⟩)))
    | (refine Exists.intro ({a : Nat // a ≤ 4}) (Exists.intro (fun ⟨a, ha⟩ => mkS Try.f23.ntmps [(1, .dat (.seq .states l)), (2, .ptr 2 0), (7, .row 107), (8, .dat (.i ((k + 1 : Nat) : Int))), (9, .dat (.i a))] [(2, .box [.dat (.i w), .dat (.i mem), .dat (.i inn), .dat (.seq .inss c)]), (107, .row 49 .facts (kTo w l k ++ aTo w l ((k + 1 : Nat) : Int) a) false)]) (Exists.intro (fun ⟨a, ha⟩ => 4 - a) (Exists.intro ⟨0, Nat.zero_le _⟩ (And.intro (SubP.sub (σ := [(2, some 2), (107, some 107)]) ⟨⟨rfl, rfl, rfl⟩, ⟨(wk_dat ?_), ⟨rfl, rfl⟩, rfl, (wk_dat ?_), (wk_dat ?_), trivial⟩, ⟨⟨(wkC_dat ?_), (wkC_dat ?_), (wkC_dat ?_), (wkC_dat ?_), trivial⟩, ⟨⟨rfl, rfl⟩, ?_⟩, trivial⟩⟩) (fun ⟨a, ha⟩ => ?_))))); rotate_right; conv => whnf)
    | (refine Exists.intro (⟨a + 1, ?_⟩ : {a : Nat // a ≤ 4}) (And.intro ?_ (SubP.sub (σ := [(2, some 2), (107, some 107)]) ⟨⟨rfl, rfl, rfl⟩, ⟨(wk_dat ?_), ⟨rfl, rfl⟩, rfl, (wk_dat ?_), (wk_dat ?_), trivial⟩, ⟨⟨(wkC_dat ?_), (wkC_dat ?_), (wkC_dat ?_), (wkC_dat ?_), trivial⟩, ⟨⟨rfl, rfl⟩, ?_⟩, trivial⟩⟩)))
    | (refine Exists.intro ({k : Nat // k ≤ 6}) (Exists.intro (fun ⟨k, hk⟩ => mkS Try.f23.ntmps [(1, .dat (.seq .states l)), (2, .ptr 2 0), (7, .row 107), (8, .dat (.i ((k + 1 : Nat) : Int)))] [(2, .box [.dat (.i w), .dat (.i mem), .dat (.i inn), .dat (.seq .inss c)]), (107, .row 49 .facts (kTo w l k) false)]) (Exists.intro (fun ⟨k, hk⟩ => 6 - k) (Exists.intro ⟨0, Nat.zero_le _⟩ (And.intro (SubP.sub (σ := [(2, some 2), (107, none)]) ⟨⟨rfl, rfl, rfl⟩, ⟨(wk_dat ?_), ⟨rfl, rfl⟩, rfl, (wk_dat ?_), trivial⟩, ⟨⟨(wkC_dat ?_), (wkC_dat ?_), (wkC_dat ?_), (wkC_dat ?_), trivial⟩, ?_, trivial⟩⟩) (fun ⟨k, hk⟩ => ?_))))); rotate_right; conv => whnf)
    | (refine Exists.intro (⟨k + 1, ?_⟩ : {k : Nat // k ≤ 6}) (And.intro ?_ (SubP.sub (σ := [(2, some 2), (107, some 107)]) ⟨⟨rfl, rfl, rfl⟩, ⟨(wk_dat ?_), ⟨rfl, rfl⟩, rfl, (wk_dat ?_), trivial⟩, ⟨⟨(wkC_dat ?_), (wkC_dat ?_), (wkC_dat ?_), (wkC_dat ?_), trivial⟩, ⟨⟨rfl, rfl⟩, ?_⟩, trivial⟩⟩)))
    | (refine Exists.intro ({j : Nat // j ≤ l.length}) (Exists.intro (fun ⟨j, hj⟩ => mkS Try.f23.ntmps [(1, .dat (.seq .states l)), (2, .ptr 2 0), (21, .dat (.seq .states l)), (22, .dat (.i l.length)), (23, .dat (.i j))] [(2, .box [.dat (.i w), .dat (.i mem), .dat (.i inn), .dat (.seq .inss c)])]) (Exists.intro (fun ⟨j, hj⟩ => l.length - j) (Exists.intro ⟨0, Nat.zero_le _⟩ (And.intro (SubP.sub (σ := [(2, some 2)]) ⟨⟨rfl, rfl, rfl⟩, ⟨(wk_dat ?_), ⟨rfl, rfl⟩, (wk_dat ?_), (wk_dat ?_), (wk_dat ?_), trivial⟩, ⟨⟨(wkC_dat ?_), (wkC_dat ?_), (wkC_dat ?_), (wkC_dat ?_), trivial⟩, trivial⟩⟩) (fun ⟨j, hj⟩ => ?_))))); rotate_right; conv => whnf)
    | (refine Exists.intro (⟨j + 1, ?_⟩ : {j : Nat // j ≤ l.length}) (And.intro ?_ (SubP.sub (σ := [(2, some 2)]) ⟨⟨rfl, rfl, rfl⟩, ⟨(wk_dat ?_), ⟨rfl, rfl⟩, (wk_dat ?_), (wk_dat ?_), (wk_dat ?_), trivial⟩, ⟨⟨(wkC_dat ?_), (wkC_dat ?_), (wkC_dat ?_), (wkC_dat ?_), trivial⟩, trivial⟩⟩)))
    | ((with_reducible refine pcI (g := 57) ?_); refine ⟨_, i_ProgramOk .., rfl, ?_⟩; rotate_right; conv => whnf)
    | ((with_reducible show Exists _); refine Exists.intro _ (And.intro (i_ProgramOk ..) (And.intro rfl ?_)); rotate_right; conv => whnf)
    | ((with_reducible refine pcI (g := 31) ?_); refine ⟨_, ip_StateOk .., rfl, ?_⟩; rotate_right; conv => whnf)
    | ((with_reducible show Exists _); refine Exists.intro _ (And.intro (ip_StateOk ..) (And.intro rfl ?_)); rotate_right; conv => whnf)
    | ((with_reducible refine pcI (g := 31) ?_); refine ⟨_, i_StateOk .., rfl, ?_⟩; rotate_right; conv => whnf)
    | ((with_reducible show Exists _); refine Exists.intro _ (And.intro (i_StateOk ..) (And.intro rfl ?_)); rotate_right; conv => whnf)
    | ((with_reducible refine pcI (g := 82) ?_); refine ⟨_, i_onesOf (hw := ?_) .., rfl, ?_⟩; rotate_right; conv => whnf)
    | ((with_reducible show Exists _); refine Exists.intro _ (And.intro (i_onesOf (hw := ?_) ..) (And.intro rfl ?_)); rotate_right; conv => whnf)
    | ((with_reducible refine pcI (g := 83) ?_); refine ⟨_, i_factOk (hw := ?_) .., rfl, ?_⟩; rotate_right; conv => whnf)
    | ((with_reducible show Exists _); refine Exists.intro _ (And.intro (i_factOk (hw := ?_) ..) (And.intro rfl ?_)); rotate_right; conv => whnf)
    | ((with_reducible refine pcI (g := 84) ?_); refine ⟨_, i_holdsIn (hw := ?_) (hf := ?_) (hs := ?_) .., rfl, ?_⟩; rotate_right; conv => whnf)
    | ((with_reducible show Exists _); refine Exists.intro _ (And.intro (i_holdsIn (hw := ?_) (hf := ?_) (hs := ?_) ..) (And.intro rfl ?_)); rotate_right; conv => whnf)
    | ((with_reducible show awpOps _ _ _ _ _ _); conv => whnf)
    | (intro h; conv => whnf))
  all_goals (repeat (clear hK; clear K1))
  all_goals first
    | (with_reducible assumption)
    | (with_reducible rfl)
    | exact (rfl : Dat.i ((0 : Nat) : Int) = Dat.int .i64 0)
    | exact (rfl : Dat.i ((0 + 1 : Nat) : Int) = Dat.int .i64 1)
    | exact (rfl : AV.num [107] (AV.row 107) = AV.row 0)
    | exact row_fin (by rw [show k = 6 from by omega])
    | exact (show (kTo w l 0).length = 0 from rfl)
    | (have e := nnP_int w; omega)
    | (have e := nnP_int w; dsimp only; omega)
    | exact progP_w (cand_of hc).1
    | exact cand_regs (cand_of hc).2.2
    | exact cand_regs (cand_of hc).2.2 _ (by with_reducible assumption)
    | exact sig_fin (List.append_nil _)
    | exact sig_fin (a_end h hb)
    | exact sig_fin (k_end h ha)
    | exact sig_fin (b_end (by have e := nnP_int w; omega) hn.1 hn.2)
    | exact sig_fin (b_brk (by have e := nnP_int w; omega) (by with_reducible assumption) hn.2 (try_t (by with_reducible assumption) (by with_reducible assumption)))
    | exact sig_fin (n_no (try_f1 (by with_reducible assumption)))
    | exact sig_fin (n_no (try_f2 (by with_reducible assumption)))
    | exact sig_fin (n_yes (try_t (by with_reducible assumption) (by with_reducible assumption)))
    | (rw [nTo_no (try_f1 (by with_reducible assumption))]; exact hn.2 (by with_reducible assumption))
    | (rw [nTo_no (try_f2 (by with_reducible assumption))]; exact hn.2 (by with_reducible assumption))
    | exact absurd h (show ¬ ((k + 1 : Nat) : Int) = 3 by with_reducible assumption)
    | (have q := out_len (cand_of hc).1 l (k := k) (a := a) (b := b) (n := n) hk ha hb hn.1 (k' := ((k + 1 : Nat) : Int)) (a' := ((a : Nat) : Int)) (b' := ((b : Nat) : Int)); show (_ + 1) * 32 ≤ _; omega)
    | (have q := out_len (cand_of hc).1 l (k := k) (a := a) (b := b) (n := n) hk ha hb hn.1 (k' := ((k + 1 : Nat) : Int)) (a' := ((a : Nat) : Int)) (b' := ((b : Nat) : Int)); show _ + 1 ≤ maxLen; have hm : maxLen = 9223372036854775807 := rfl; omega)
    | exact congrArg (Dat.int .i64) (wrap_succ (by with_reducible assumption) (by with_reducible assumption)).symm
    | (have q : nnP w ≤ 256 := nnP_le (p := ⟨w, mem, inn, c⟩) (cand_of hc).1; have e := nnP_int w; exact congrArg (Dat.int .i64) (wrap_id (by omega) (by omega)).symm)
    | (exfalso; exact Bool.noConfusion ((cand_of hc).1.symm.trans h))
    | (exfalso; have q := (cand_of hc).2.1; omega)
    | (exfalso; exact Bool.noConfusion ((all_at (d := K.states.dflt) (cand_of hc).2.2 (by with_reducible assumption)).symm.trans h))
    | skip
def okTo (w : Int) (l : List V.State) (f : V.Fact) (j : Nat) : Bool := factP w f && (l.take j).all (fun s => trueP w f s.regs)
theorem ok_end {w : Int} {l : List V.State} {f : V.Fact} {j : Nat} (h : ¬ (j : Int) < l.length) : okTo w l f j = tryP w l f := by
  unfold okTo tryP
  rw [List.take_of_length_le (by omega)]
theorem ok_yes {w : Int} {l : List V.State} {f : V.Fact} {j : Nat} (h : ¬ (j : Int) < l.length) (h1 : okTo w l f j = true) : tryP w l f = true := (ok_end h).symm.trans h1
theorem ok_no {w : Int} {l : List V.State} {f : V.Fact} {j : Nat} (h : ¬ (j : Int) < l.length) (h1 : okTo w l f j = false) : tryP w l f = false := (ok_end h).symm.trans h1
theorem ok_fact {w : Int} {l : List V.State} {f : V.Fact} {j : Nat} (h : okTo w l f j = true) : factP w f = true := by
  unfold okTo at h; rw [Bool.and_eq_true] at h; exact h.1
theorem ok_step {w : Int} {l : List V.State} {f : V.Fact} {j : Nat} (hj : (j : Int) < l.length) (h : okTo w l f j = true) : okTo w l f (j + 1) = trueP w f (l.getD (j : Int).toNat K.states.dflt).regs := by
  unfold okTo at h ⊢
  rw [Bool.and_eq_true] at h
  rw [h.1, all_step (K.dflt .states) hj, h.2, Int.toNat_natCast]; rfl
theorem ok_stop {w : Int} {l : List V.State} {f : V.Fact} {j : Nat} (h : okTo w l f j = false) : okTo w l f (j + 1) = false := by
  unfold okTo at h ⊢
  rw [Bool.and_eq_false_iff] at h ⊢
  rcases h with h | h
  · exact .inl h
  · right
    rw [List.all_eq_false] at h ⊢
    obtain ⟨x, h1, h2⟩ := h
    exact ⟨x, List.take_subset_take_left _ (Nat.le_succ j) h1, h2⟩
theorem ok_0 {w : Int} {l : List V.State} {f : V.Fact} {p : V.Prog} (h : progP p = true) : okTo w l f 0 = (progP p && factP w f) := by
  unfold okTo; rw [h]; simp
theorem cand_no {p : V.Prog} {l : List V.State} {j : Nat} (h : ¬ (j : Int) < l.length) (hall : (l.take j).all (fun s => stateP p s) = true) (h0 : ¬ (l.length : Int) = 0) (hc : candOk p l = false) : False := by
  have e := all_end h hall
  have hp : progP p = true := by
    have hl : 0 < l.length := by omega
    have := List.all_eq_true.1 e _ (List.getElem_mem hl)
    simp only [stateP, Bool.and_eq_true] at this
    exact this.1.1
  have hl : decide (0 < l.length) = true := decide_eq_true (by omega)
  rw [candOk, hp, e, hl] at hc
  exact Bool.noConfusion hc
set_option maxHeartbeats 1000000 in
set_option maxRecDepth 100000 in
theorem i_Cand0 (w mem inn : Int) (c : List V.Ins) (l : List V.State) (hc : candOk ⟨w, mem, inn, c⟩ l = false) : CallsV Try.prog 23 [.agg [.dat (.i w), .dat (.i mem), .dat (.i inn), .dat (.seq .inss c)], .dat (.seq .states l)] (.nils) := by
  refine CallsV.of_awp tauOk mixOk Try.func23 rfl rfl rfl ?_
  conv => whnf
  repeat' (first
    | ((with_reducible refine Alt.l ?_); conv => whnf)
    | ((with_reducible refine fun (K1 : AX → AState → Prop) hK => ?_); conv => whnf)
    | ((with_reducible show K1 _ _); subst hK; conv => whnf)
    | (with_reducible exact rfl)
    | ((with_reducible refine sp_T ?_); conv => whnf)
    | ((with_reducible refine sp_F ?_); conv => whnf)
    | ((with_reducible refine sp_T' ?_); conv => whnf)
    | ((with_reducible refine sp_F' ?_); conv => whnf)
    | ((with_reducible refine sp_dF ?_ ?_); decide; conv => whnf)
    | ((with_reducible refine sp_dT ?_ ?_); decide; conv => whnf)
    | ((with_reducible refine sp_d (fun h => ?_) (fun h => ?_)) <;> first | contradiction | (subst h; conv => whnf) | (conv => whnf))
    | ((with_reducible refine sp_d' (fun h => ?_) (fun h => ?_)) <;> first | contradiction | (subst h; conv => whnf) | (conv => whnf))
    | ((with_reducible refine sp_eF ?_ ?_); decide; conv => whnf)
    | ((with_reducible refine sp_eT ?_); conv => whnf)
    | ((with_reducible refine sp_e (fun h => ?_) (fun h => ?_)) <;> first | contradiction | (subst h; conv => whnf) | (conv => whnf))
    | ((with_reducible refine sp_e' (fun h => ?_) (fun h => ?_)) <;> first | contradiction | (subst h; conv => whnf) | (conv => whnf))
    | ((with_reducible refine sp_n (fun h => ?_) (fun h => ?_)) <;> first | contradiction | (subst h; conv => whnf) | (conv => whnf))
    | ((with_reducible refine sp_n' (fun h => ?_) (fun h => ?_)) <;> first | contradiction | (subst h; conv => whnf) | (conv => whnf))
    | ((with_reducible refine sp_nb (fun h => ?_) (fun h => ?_)) <;> first | contradiction | (exact Bool.noConfusion (Eq.trans (Eq.symm h) (show _ = true by assumption))) | (exact Bool.noConfusion (Eq.trans (Eq.symm (show _ = false by assumption)) h)) | (conv => whnf))
    | ((with_reducible refine sp_nb' (fun h => ?_) (fun h => ?_)) <;> first | contradiction | (exact Bool.noConfusion (Eq.trans (Eq.symm h) (show _ = true by assumption))) | (exact Bool.noConfusion (Eq.trans (Eq.symm (show _ = false by assumption)) h)) | (conv => whnf))
    | ((with_reducible refine sp_b (fun h => ?_) (fun h => ?_)) <;> first | contradiction | (exact Bool.noConfusion (Eq.trans (Eq.symm h) (show _ = true by assumption))) | (exact Bool.noConfusion (Eq.trans (Eq.symm (show _ = false by assumption)) h)) | (conv => whnf))
    | ((with_reducible refine sp_b' (fun h => ?_) (fun h => ?_)) <;> first | contradiction | (exact Bool.noConfusion (Eq.trans (Eq.symm h) (show _ = true by assumption))) | (exact Bool.noConfusion (Eq.trans (Eq.symm (show _ = false by assumption)) h)) | (conv => whnf))
    | (refine ⟨(rfl : nodupB _ = true), rfl, ?_⟩; conv => whnf)
    | (with_reducible refine bnd2 ?_ ?_)
    | (with_reducible refine bnd2' ?_ ?_)
    | (with_reducible refine bndN ?_ ?_)
    | ((with_reducible refine and_of ?_ ?_); conv => whnf)
    | (refine Exists.intro ({j : Nat // (l.take j).all (fun s => stateP ⟨w, mem, inn, c⟩ s) = true}) (Exists.intro (fun ⟨j, hall⟩ => mkS Try.f23.ntmps [(1, .dat (.seq .states l)), (2, .ptr 2 0), (21, .dat (.seq .states l)), (22, .dat (.i l.length)), (23, .dat (.i j))] [(2, .box [.dat (.i w), .dat (.i mem), .dat (.i inn), .dat (.seq .inss c)])]) (Exists.intro (fun ⟨j, hall⟩ => l.length - j) (Exists.intro ⟨0, rfl⟩ (And.intro (SubP.sub (σ := [(2, some 2)]) ⟨⟨rfl, rfl, rfl⟩, ⟨(wk_dat ?_), ⟨rfl, rfl⟩, (wk_dat ?_), (wk_dat ?_), (wk_dat ?_), trivial⟩, ⟨⟨(wkC_dat ?_), (wkC_dat ?_), (wkC_dat ?_), (wkC_dat ?_), trivial⟩, trivial⟩⟩) (fun ⟨j, hall⟩ => ?_))))); rotate_right; conv => whnf)
    | (refine Exists.intro ⟨j + 1, ?_⟩ (And.intro ?_ (SubP.sub (σ := [(2, some 2)]) ⟨⟨rfl, rfl, rfl⟩, ⟨(wk_dat ?_), ⟨rfl, rfl⟩, (wk_dat ?_), (wk_dat ?_), (wk_dat ?_), trivial⟩, ⟨⟨(wkC_dat ?_), (wkC_dat ?_), (wkC_dat ?_), (wkC_dat ?_), trivial⟩, trivial⟩⟩)))
    | ((with_reducible refine pcI (g := 57) ?_); refine ⟨_, i_ProgramOk .., rfl, ?_⟩; rotate_right; conv => whnf)
    | ((with_reducible show Exists _); refine Exists.intro _ (And.intro (i_ProgramOk ..) (And.intro rfl ?_)); rotate_right; conv => whnf)
    | ((with_reducible refine pcI (g := 31) ?_); refine ⟨_, ip_StateOk .., rfl, ?_⟩; rotate_right; conv => whnf)
    | ((with_reducible show Exists _); refine Exists.intro _ (And.intro (ip_StateOk ..) (And.intro rfl ?_)); rotate_right; conv => whnf)
    | ((with_reducible refine pcI (g := 31) ?_); refine ⟨_, i_StateOk .., rfl, ?_⟩; rotate_right; conv => whnf)
    | ((with_reducible show Exists _); refine Exists.intro _ (And.intro (i_StateOk ..) (And.intro rfl ?_)); rotate_right; conv => whnf)
    | ((with_reducible refine pcI (g := 82) ?_); refine ⟨_, i_onesOf (hw := ?_) .., rfl, ?_⟩; rotate_right; conv => whnf)
    | ((with_reducible show Exists _); refine Exists.intro _ (And.intro (i_onesOf (hw := ?_) ..) (And.intro rfl ?_)); rotate_right; conv => whnf)
    | ((with_reducible refine pcI (g := 83) ?_); refine ⟨_, i_factOk (hw := ?_) .., rfl, ?_⟩; rotate_right; conv => whnf)
    | ((with_reducible show Exists _); refine Exists.intro _ (And.intro (i_factOk (hw := ?_) ..) (And.intro rfl ?_)); rotate_right; conv => whnf)
    | ((with_reducible refine pcI (g := 84) ?_); refine ⟨_, i_holdsIn (hw := ?_) (hf := ?_) (hs := ?_) .., rfl, ?_⟩; rotate_right; conv => whnf)
    | ((with_reducible show Exists _); refine Exists.intro _ (And.intro (i_holdsIn (hw := ?_) (hf := ?_) (hs := ?_) ..) (And.intro rfl ?_)); rotate_right; conv => whnf)
    | ((with_reducible show awpOps _ _ _ _ _ _); conv => whnf)
    | (intro h; conv => whnf))
  all_goals (repeat (clear hK; clear K1))
  all_goals first
    | (with_reducible assumption)
    | (with_reducible rfl)
    | omega
    | (dsimp only; omega)
    | exact congrArg (Dat.int .i64) (wrap_succ (by with_reducible assumption) (by with_reducible assumption)).symm
    | exact (rfl : Dat.i ((0 : Nat) : Int) = Dat.int .i64 0)
    | (with_reducible exact trivial)
    | (exfalso; exact cand_no (by with_reducible assumption) (by with_reducible assumption) (by with_reducible assumption) hc)
    | (rw [all_step (K.dflt .states) (by with_reducible assumption), hall]; exact h)
    | skip

end Vg
