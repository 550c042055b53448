/- Facts are printed: contracts of FormatFact, and of the law FnExactFormatFact. Condition: lists are no longer than the law lets through. -/
import Derived.Test.YtlopkgjiccppfaaDoorFmt
namespace Vg
open Go Go.Proofs
def sp1 : ByteArray := ⟨#[32]⟩
def headS (f : V.Fact) : ByteArray := ((regS f.a ++ sp1) ++ factW f.kind) ++ sp1
def bodyS (f : V.Fact) : ByteArray :=
  if f.kind = 1 ∨ f.kind = 3 then headS f ++ itoaS f.n
  else if f.kind = 4 then ((headS f ++ itoaS f.b) ++ sp1) ++ itoaS f.n
  else if f.kind = 5 then ((headS f ++ regS f.b) ++ sp1) ++ itoaS f.n
  else headS f ++ regS f.b
def fmtS (p : V.Prog) (f : V.Fact) : ByteArray := if (progP p && factP p.w f) = true then bodyS f else ⟨#[]⟩
theorem pw_max {w : Int} (h : 2 ≤ w ∧ w ≤ 8) : (2 : Int) ^ w.toNat ≤ 256 := by
  have : w.toNat < 9 := by omega
  generalize w.toNat = k at this
  have : ∀ k < 9, (2 : Int) ^ k ≤ 256 := by decide
  exact this k (by assumption)
structure FactR (f : V.Fact) : Prop where
  k : 1 ≤ f.kind ∧ f.kind ≤ 6
  a : 0 ≤ f.a ∧ f.a < 4
  b : 0 ≤ f.b ∧ f.b < 8
  n : 0 ≤ f.n ∧ f.n < 256
theorem fact_r {p : V.Prog} {f : V.Fact} (h : (progP p && factP p.w f) = true) : FactR f := by
  rw [Bool.and_eq_true] at h
  obtain ⟨hp, h⟩ := h
  have hr := progP_r hp
  have hw := pw_max hr
  obtain ⟨k, a, b, n⟩ := f
  simp only [factP] at h
  split at h
  · cases h
  rename_i hr1
  have hr' : regP a = true := by cases e : regP a with
    | true => rfl
    | false => exact absurd e hr1
  have ha : 0 ≤ a ∧ a < 4 := by simp [regP, inP] at hr'; omega
  have key : (1 ≤ k ∧ k ≤ 6) ∧ (0 ≤ b ∧ b < 8) ∧ 0 ≤ n ∧ n < 256 := by
    split at h
    · rename_i hk; simp only [wordP, inP, Bool.and_eq_true, decide_eq_true_eq] at h; omega
    split at h
    · rename_i hk; simp only [regP, inP, Bool.and_eq_true, decide_eq_true_eq] at h; omega
    split at h
    · rename_i hk; simp only [wordP, inP, Bool.and_eq_true, decide_eq_true_eq] at h; omega
    split at h
    · rename_i hk; simp only [inP, Bool.and_eq_true, decide_eq_true_eq] at h; omega
    split at h
    · rename_i hk; simp only [wordP, regP, inP, Bool.and_eq_true, decide_eq_true_eq] at h; omega
    split at h
    · rename_i hk; simp only [regP, inP, Bool.and_eq_true, decide_eq_true_eq] at h; omega
    · cases h
  exact ⟨key.1, ha, key.2.1, key.2.2⟩
theorem fmt_no {p : V.Prog} {f : V.Fact} (h : (progP p && factP p.w f) = false) : Dat.str (fmtS p f) = Dat.str ⟨#[]⟩ := by unfold fmtS; rw [h]; rfl
theorem fmt_y {p : V.Prog} {f : V.Fact} (h : (progP p && factP p.w f) = true) : fmtS p f = bodyS f := by unfold fmtS; rw [if_pos h]
section
variable {p : V.Prog} {k a b n : Int}
theorem ff_1 (h : (progP p && factP p.w ⟨1, a, b, n⟩) = true) : Dat.str (fmtS p ⟨1, a, b, n⟩) = Dat.str (headS ⟨1, a, b, n⟩ ++ itoaS n) := by rw [fmt_y h]; rfl
theorem ff_3 (h : (progP p && factP p.w ⟨3, a, b, n⟩) = true) : Dat.str (fmtS p ⟨3, a, b, n⟩) = Dat.str (headS ⟨3, a, b, n⟩ ++ itoaS n) := by rw [fmt_y h]; rfl
theorem ff_4 (h : (progP p && factP p.w ⟨4, a, b, n⟩) = true) : Dat.str (fmtS p ⟨4, a, b, n⟩) = Dat.str (((headS ⟨4, a, b, n⟩ ++ itoaS b) ++ sp1) ++ itoaS n) := by rw [fmt_y h]; rfl
theorem ff_5 (h : (progP p && factP p.w ⟨5, a, b, n⟩) = true) : Dat.str (fmtS p ⟨5, a, b, n⟩) = Dat.str (((headS ⟨5, a, b, n⟩ ++ regS b) ++ sp1) ++ itoaS n) := by rw [fmt_y h]; rfl
theorem ff_r (h : (progP p && factP p.w ⟨k, a, b, n⟩) = true) (h1 : ¬ k = 1) (h3 : ¬ k = 3) (h4 : ¬ k = 4) (h5 : ¬ k = 5) : Dat.str (fmtS p ⟨k, a, b, n⟩) = Dat.str (headS ⟨k, a, b, n⟩ ++ regS b) := by
  rw [fmt_y h]; unfold bodyS
  rw [if_neg (by simp only; omega), if_neg h4, if_neg h5]
theorem j0 (x : ByteArray) : (⟨#[]⟩ : ByteArray) ++ x = x := ByteArray.empty_append
theorem j3 (x y z s : ByteArray) : joinTo [x, y, z] s 3 = ((x ++ s) ++ y ++ s) ++ z := by
  show ((((⟨#[]⟩ ++ x) ++ s) ++ y) ++ s) ++ z = _
  rw [j0]
theorem j4 (x y z t s : ByteArray) : joinTo [x, y, z, t] s 4 = (((x ++ s) ++ y ++ s) ++ z) ++ s ++ t := by
  show (((((((⟨#[]⟩ ++ x) ++ s) ++ y) ++ s) ++ z) ++ s) ++ t) = _
  rw [j0]
theorem sf_1 (h : (progP p && factP p.w ⟨1, a, b, n⟩) = true) : Dat.str (fmtS p ⟨1, a, b, n⟩) = Dat.str (joinTo ([regS a, factW 1] ++ [itoaS n]) ⟨#[32]⟩ ([regS a, factW 1] ++ [itoaS n]).length) := by
  rw [ff_1 h]; exact congrArg Dat.str (j3 ..).symm
theorem sf_3 (h : (progP p && factP p.w ⟨3, a, b, n⟩) = true) : Dat.str (fmtS p ⟨3, a, b, n⟩) = Dat.str (joinTo ([regS a, factW 3] ++ [itoaS n]) ⟨#[32]⟩ ([regS a, factW 3] ++ [itoaS n]).length) := by
  rw [ff_3 h]; exact congrArg Dat.str (j3 ..).symm
theorem sf_2 (h : (progP p && factP p.w ⟨2, a, b, n⟩) = true) : Dat.str (fmtS p ⟨2, a, b, n⟩) = Dat.str (joinTo ([regS a, factW 2] ++ [regS b]) ⟨#[32]⟩ ([regS a, factW 2] ++ [regS b]).length) := by
  rw [ff_r h (by decide) (by decide) (by decide) (by decide)]; exact congrArg Dat.str (j3 ..).symm
theorem sf_6 (h : (progP p && factP p.w ⟨6, a, b, n⟩) = true) : Dat.str (fmtS p ⟨6, a, b, n⟩) = Dat.str (joinTo ([regS a, factW 6] ++ [regS b]) ⟨#[32]⟩ ([regS a, factW 6] ++ [regS b]).length) := by
  rw [ff_r h (by decide) (by decide) (by decide) (by decide)]; exact congrArg Dat.str (j3 ..).symm
theorem sf_4 (h : (progP p && factP p.w ⟨4, a, b, n⟩) = true) : Dat.str (fmtS p ⟨4, a, b, n⟩) = Dat.str (joinTo ([regS a, factW 4] ++ [itoaS b, itoaS n]) ⟨#[32]⟩ ([regS a, factW 4] ++ [itoaS b, itoaS n]).length) := by
  rw [ff_4 h]; exact congrArg Dat.str (j4 ..).symm
theorem sf_5 (h : (progP p && factP p.w ⟨k, a, b, n⟩) = true) (h1 : ¬ k = 1) (h3 : ¬ k = 3) (h2 : ¬ k = 2) (h6 : ¬ k = 6) (h4 : ¬ k = 4) : Dat.str (fmtS p ⟨k, a, b, n⟩) = Dat.str (joinTo ([regS a, factW k] ++ [regS b, itoaS n]) ⟨#[32]⟩ ([regS a, factW k] ++ [regS b, itoaS n]).length) := by
  have hk : k = 5 := by have := (fact_r h).k; simp only at this; omega
  subst hk
  rw [ff_5 h]; exact congrArg Dat.str (j4 ..).symm
end
theorem head_len {f : V.Fact} (h : FactR f) : (headS f).size ≤ 11 := by
  have h1 := reg_len (n := f.a) h.a.1 (by have := h.a; omega)
  have h2 := factW_len f.kind
  unfold headS
  have e : sp1.size = 1 := rfl
  rw [ByteArray.size_append, ByteArray.size_append, ByteArray.size_append, e]
  omega
structure FactB (a b n : Int) : Prop where
  a : 0 ≤ a ∧ a < 1000
  b : 0 ≤ b ∧ b < 1000
  n : 0 ≤ n ∧ n < 1000
theorem fact_b {p : V.Prog} {k a b n : Int} (h : (progP p && factP p.w ⟨k, a, b, n⟩) = true) : FactB a b n := by
  have q := fact_r h
  have := q.a; have := q.b; have := q.n
  simp only at *
  exact ⟨by omega, by omega, by omega⟩
set_option maxHeartbeats 4000000 in
set_option maxRecDepth 100000 in
theorem i_FormatFact (w mem inn : Int) (code : List V.Ins) (k a b n : Int) : CallsV Tryd.prog 9 [.agg [.dat (.i w), .dat (.i mem), .dat (.i inn), .dat (.seq .inss code)], .agg [.dat (.i k), .dat (.i a), .dat (.i b), .dat (.i n)]] (.dat (.str (fmtS ⟨w, mem, inn, code⟩ ⟨k, a, b, n⟩))) := by
  refine CallsV.of_awp tauOk mixOk Tryd.func9 rfl rfl rfl ?_
  conv => whnf
  repeat' (first
    | ((with_reducible refine Alt.l ?_); conv => whnf)
    | ((with_reducible refine fun (K1 : AX → AState → Prop) hK => ?_); conv => whnf)
    | ((with_reducible show K1 _ _); subst hK; conv => whnf)
    | (with_reducible exact rfl)
    | ((with_reducible refine sp_T ?_); conv => whnf)
    | ((with_reducible refine sp_F ?_); conv => whnf)
    | ((with_reducible refine sp_T' ?_); conv => whnf)
    | ((with_reducible refine sp_F' ?_); conv => whnf)
    | ((with_reducible refine sp_dF ?_ ?_); decide; conv => whnf)
    | ((with_reducible refine sp_dT ?_ ?_); decide; conv => whnf)
    | ((with_reducible refine sp_d (fun h => ?_) (fun h => ?_)) <;> first | contradiction | (subst h; conv => whnf) | (conv => whnf))
    | ((with_reducible refine sp_d' (fun h => ?_) (fun h => ?_)) <;> first | contradiction | (subst h; conv => whnf) | (conv => whnf))
    | ((with_reducible refine sp_eF ?_ ?_); decide; conv => whnf)
    | ((with_reducible refine sp_eT ?_); conv => whnf)
    | ((with_reducible refine sp_e (fun h => ?_) (fun h => ?_)) <;> first | contradiction | (subst h; conv => whnf) | (conv => whnf))
    | ((with_reducible refine sp_e' (fun h => ?_) (fun h => ?_)) <;> first | contradiction | (subst h; conv => whnf) | (conv => whnf))
    | ((with_reducible refine sp_n (fun h => ?_) (fun h => ?_)) <;> first | contradiction | (subst h; conv => whnf) | (conv => whnf))
    | ((with_reducible refine sp_n' (fun h => ?_) (fun h => ?_)) <;> first | contradiction | (subst h; conv => whnf) | (conv => whnf))
    | ((with_reducible refine sp_nb (fun h => ?_) (fun h => ?_)) <;> first | (exact Bool.noConfusion (Eq.trans (Eq.symm h) (show _ = true by with_reducible assumption))) | (exact Bool.noConfusion (Eq.trans (Eq.symm (show _ = false by with_reducible assumption)) h)) | (conv => whnf))
    | ((with_reducible refine sp_nb' (fun h => ?_) (fun h => ?_)) <;> first | (exact Bool.noConfusion (Eq.trans (Eq.symm h) (show _ = true by with_reducible assumption))) | (exact Bool.noConfusion (Eq.trans (Eq.symm (show _ = false by with_reducible assumption)) h)) | (conv => whnf))
    | ((with_reducible refine sp_b (fun h => ?_) (fun h => ?_)) <;> first | (exact Bool.noConfusion (Eq.trans (Eq.symm h) (show _ = true by with_reducible assumption))) | (exact Bool.noConfusion (Eq.trans (Eq.symm (show _ = false by with_reducible assumption)) h)) | (conv => whnf))
    | ((with_reducible refine sp_b' (fun h => ?_) (fun h => ?_)) <;> first | (exact Bool.noConfusion (Eq.trans (Eq.symm h) (show _ = true by with_reducible assumption))) | (exact Bool.noConfusion (Eq.trans (Eq.symm (show _ = false by with_reducible assumption)) h)) | (conv => whnf))
    | (refine ⟨(rfl : nodupB _ = true), rfl, ?_⟩; conv => whnf)
    | (with_reducible refine bnd2 ?_ ?_)
    | (with_reducible refine bnd2' ?_ ?_)
    | (with_reducible refine bndN ?_ ?_)
    | ((with_reducible refine and_of ?_ ?_); conv => whnf)
    | ((with_reducible refine pcI (g := 21) ?_); refine ⟨_, i_FactOk .., rfl, ?_⟩; rotate_right; conv => whnf)
    | ((with_reducible show Exists _); refine Exists.intro _ (And.intro (i_FactOk ..) (And.intro rfl ?_)); rotate_right; conv => whnf)
    | ((with_reducible refine pcI (g := 22) ?_); refine ⟨_, i_regName (h0 := ?_) (h1 := ?_) .., rfl, ?_⟩; rotate_right; conv => whnf)
    | ((with_reducible show Exists _); refine Exists.intro _ (And.intro (i_regName (h0 := ?_) (h1 := ?_) ..) (And.intro rfl ?_)); rotate_right; conv => whnf)
    | ((with_reducible refine pcI (g := 23) ?_); refine ⟨_, i_factWord .., rfl, ?_⟩; rotate_right; conv => whnf)
    | ((with_reducible show Exists _); refine Exists.intro _ (And.intro (i_factWord ..) (And.intro rfl ?_)); rotate_right; conv => whnf)
    | ((with_reducible refine pcI (g := 24) ?_); refine ⟨_, i_FormatInt (h0 := ?_) (h1 := ?_) .., rfl, ?_⟩; rotate_right; conv => whnf)
    | ((with_reducible show Exists _); refine Exists.intro _ (And.intro (i_FormatInt (h0 := ?_) (h1 := ?_) ..) (And.intro rfl ?_)); rotate_right; conv => whnf)
    | ((with_reducible show awpOps _ _ _ _ _ _); conv => whnf)
    | (intro h; conv => whnf))
  all_goals (repeat (clear hK; clear K1))
  all_goals first
    | (with_reducible assumption)
    | exact fmt_no (p := ⟨w, mem, inn, code⟩) (by with_reducible assumption)
    | exact ff_1 (p := ⟨w, mem, inn, code⟩) (by with_reducible assumption)
    | exact ff_3 (p := ⟨w, mem, inn, code⟩) (by with_reducible assumption)
    | exact ff_4 (p := ⟨w, mem, inn, code⟩) (by with_reducible assumption)
    | exact ff_5 (p := ⟨w, mem, inn, code⟩) (by with_reducible assumption)
    | exact ff_r (p := ⟨w, mem, inn, code⟩) (by with_reducible assumption) (by with_reducible assumption) (by with_reducible assumption) (by with_reducible assumption) (by with_reducible assumption)
    | (have q := fact_b (p := ⟨w, mem, inn, code⟩) (show (progP _ && factP _ _) = true by with_reducible assumption); have q1 := q.a; have q2 := q.b; have q3 := q.n; first | omega | (have r1 := reg_len q1.1 q1.2; have r2 := reg_len q2.1 q2.2; have r3 := itoa_len q2.1 q2.2; have r4 := itoa_len q3.1 q3.2; have r5 := factW_len 1; have r6 := factW_len 3; have r7 := factW_len 4; have r8 := factW_len 5; have hm : maxLen = 9223372036854775807 := rfl; have hs : (⟨#[32]⟩ : ByteArray).size = 1 := rfl; simp only [ByteArray.size_append, hs]; omega) | (have r1 := reg_len q1.1 q1.2; have r2 := reg_len q2.1 q2.2; have r3 := itoa_len q2.1 q2.2; have r4 := itoa_len q3.1 q3.2; have r5 := factW_len k; have hm : maxLen = 9223372036854775807 := rfl; have hs : (⟨#[32]⟩ : ByteArray).size = 1 := rfl; simp only [ByteArray.size_append, hs]; omega))
    | skip
theorem all3 {x y z : ByteArray} (h1 : x.size ≤ 100) (h2 : y.size ≤ 100) (h3 : z.size ≤ 100) : ∀ t ∈ ([x, y] ++ [z] : List ByteArray), t.size ≤ 100 := by
  intro t ht
  simp at ht
  rcases ht with rfl | rfl | rfl <;> assumption
theorem all4 {x y z u : ByteArray} (h1 : x.size ≤ 100) (h2 : y.size ≤ 100) (h3 : z.size ≤ 100) (h4 : u.size ≤ 100) : ∀ t ∈ ([x, y] ++ [z, u] : List ByteArray), t.size ≤ 100 := by
  intro t ht
  simp at ht
  rcases ht with rfl | rfl | rfl | rfl <;> assumption
section
variable {a b n k : Int}
theorem s_r (q : FactB a b n) : (regS a).size ≤ 100 := Nat.le_trans (reg_len q.a.1 q.a.2) (by decide)
theorem s_rb (q : FactB a b n) : (regS b).size ≤ 100 := Nat.le_trans (reg_len q.b.1 q.b.2) (by decide)
theorem s_b (q : FactB a b n) : (itoaS b).size ≤ 100 := Nat.le_trans (itoa_len q.b.1 q.b.2) (by decide)
theorem s_n (q : FactB a b n) : (itoaS n).size ≤ 100 := Nat.le_trans (itoa_len q.n.1 q.n.2) (by decide)
theorem s_w (k : Int) : (factW k).size ≤ 100 := Nat.le_trans (factW_len k) (by decide)
end
theorem cap16 (a b : Nat) (h : Nat.ble (a + b) 10 = true) : (a + b) * 16 ≤ 140737488355328 := by have := Nat.le_of_ble_eq_true h; omega
theorem capM (a b : Nat) (h : Nat.ble (a + b) 10 = true) : a + b ≤ maxLen := by have := Nat.le_of_ble_eq_true h; have hm : maxLen = 9223372036854775807 := rfl; omega
set_option maxHeartbeats 4000000 in
set_option maxRecDepth 100000 in
theorem s_FormatFact (w mem inn : Int) (code : List V.Ins) (k a b n : Int) : CallsV Tryd.prog 6 [.agg [.dat (.i w), .dat (.i mem), .dat (.i inn), .dat (.seq .inss code)], .agg [.dat (.i k), .dat (.i a), .dat (.i b), .dat (.i n)]] (.dat (.str (fmtS ⟨w, mem, inn, code⟩ ⟨k, a, b, n⟩))) := by
  refine CallsV.of_awp tauOk mixOk Tryd.func6 rfl rfl rfl ?_
  conv => whnf
  repeat' (first
    | ((with_reducible refine Alt.l ?_); conv => whnf)
    | ((with_reducible refine fun (K1 : AX → AState → Prop) hK => ?_); conv => whnf)
    | ((with_reducible show K1 _ _); subst hK; conv => whnf)
    | (with_reducible exact rfl)
    | ((with_reducible refine sp_T ?_); conv => whnf)
    | ((with_reducible refine sp_F ?_); conv => whnf)
    | ((with_reducible refine sp_T' ?_); conv => whnf)
    | ((with_reducible refine sp_F' ?_); conv => whnf)
    | ((with_reducible refine sp_dF ?_ ?_); decide; conv => whnf)
    | ((with_reducible refine sp_dT ?_ ?_); decide; conv => whnf)
    | ((with_reducible refine sp_d (fun h => ?_) (fun h => ?_)) <;> first | contradiction | (subst h; conv => whnf) | (conv => whnf))
    | ((with_reducible refine sp_d' (fun h => ?_) (fun h => ?_)) <;> first | contradiction | (subst h; conv => whnf) | (conv => whnf))
    | ((with_reducible refine sp_eF ?_ ?_); decide; conv => whnf)
    | ((with_reducible refine sp_eT ?_); conv => whnf)
    | ((with_reducible refine sp_e (fun h => ?_) (fun h => ?_)) <;> first | contradiction | (subst h; conv => whnf) | (conv => whnf))
    | ((with_reducible refine sp_e' (fun h => ?_) (fun h => ?_)) <;> first | contradiction | (subst h; conv => whnf) | (conv => whnf))
    | ((with_reducible refine sp_n (fun h => ?_) (fun h => ?_)) <;> first | contradiction | (subst h; conv => whnf) | (conv => whnf))
    | ((with_reducible refine sp_n' (fun h => ?_) (fun h => ?_)) <;> first | contradiction | (subst h; conv => whnf) | (conv => whnf))
    | ((with_reducible refine sp_nb (fun h => ?_) (fun h => ?_)) <;> first | (exact Bool.noConfusion (Eq.trans (Eq.symm h) (show _ = true by with_reducible assumption))) | (exact Bool.noConfusion (Eq.trans (Eq.symm (show _ = false by with_reducible assumption)) h)) | (conv => whnf))
    | ((with_reducible refine sp_nb' (fun h => ?_) (fun h => ?_)) <;> first | (exact Bool.noConfusion (Eq.trans (Eq.symm h) (show _ = true by with_reducible assumption))) | (exact Bool.noConfusion (Eq.trans (Eq.symm (show _ = false by with_reducible assumption)) h)) | (conv => whnf))
    | ((with_reducible refine sp_b (fun h => ?_) (fun h => ?_)) <;> first | (exact Bool.noConfusion (Eq.trans (Eq.symm h) (show _ = true by with_reducible assumption))) | (exact Bool.noConfusion (Eq.trans (Eq.symm (show _ = false by with_reducible assumption)) h)) | (conv => whnf))
    | ((with_reducible refine sp_b' (fun h => ?_) (fun h => ?_)) <;> first | (exact Bool.noConfusion (Eq.trans (Eq.symm h) (show _ = true by with_reducible assumption))) | (exact Bool.noConfusion (Eq.trans (Eq.symm (show _ = false by with_reducible assumption)) h)) | (conv => whnf))
    | (refine ⟨(rfl : nodupB _ = true), rfl, ?_⟩; conv => whnf)
    | (with_reducible refine bnd2 ?_ ?_)
    | (with_reducible refine bnd2' ?_ ?_)
    | (with_reducible refine bndN ?_ ?_)
    | ((with_reducible refine and_of ?_ ?_); conv => whnf)
    | ((with_reducible refine pcI (g := 15) ?_); refine ⟨_, s_FactOk .., rfl, ?_⟩; rotate_right; conv => whnf)
    | ((with_reducible show Exists _); refine Exists.intro _ (And.intro (s_FactOk ..) (And.intro rfl ?_)); rotate_right; conv => whnf)
    | ((with_reducible refine pcI (g := 16) ?_); refine ⟨_, s_l05RegName (h0 := ?_) (h1 := ?_) .., rfl, ?_⟩; rotate_right; conv => whnf)
    | ((with_reducible show Exists _); refine Exists.intro _ (And.intro (s_l05RegName (h0 := ?_) (h1 := ?_) ..) (And.intro rfl ?_)); rotate_right; conv => whnf)
    | ((with_reducible refine pcI (g := 17) ?_); refine ⟨_, s_l08Word (h0 := ?_) (h1 := ?_) .., rfl, ?_⟩; rotate_right; conv => whnf)
    | ((with_reducible show Exists _); refine Exists.intro _ (And.intro (s_l08Word (h0 := ?_) (h1 := ?_) ..) (And.intro rfl ?_)); rotate_right; conv => whnf)
    | ((with_reducible refine pcI (g := 18) ?_); refine ⟨_, s_FormatInt (h0 := ?_) (h1 := ?_) .., rfl, ?_⟩; rotate_right; conv => whnf)
    | ((with_reducible show Exists _); refine Exists.intro _ (And.intro (s_FormatInt (h0 := ?_) (h1 := ?_) ..) (And.intro rfl ?_)); rotate_right; conv => whnf)
    | ((with_reducible refine pcI (g := 19) ?_); refine ⟨_, s_Join (hl := ?_) (hs := ?_) (hb := ?_) .., rfl, ?_⟩; rotate_right; conv => whnf)
    | ((with_reducible show Exists _); refine Exists.intro _ (And.intro (s_Join (hl := ?_) (hs := ?_) (hb := ?_) ..) (And.intro rfl ?_)); rotate_right; conv => whnf)
    | ((with_reducible show awpOps _ _ _ _ _ _); conv => whnf)
    | (intro h; conv => whnf))
  all_goals (repeat (clear hK; clear K1))
  all_goals first
    | (with_reducible assumption)
    | exact fmt_no (p := ⟨w, mem, inn, code⟩) (by with_reducible assumption)
    | exact sf_1 (p := ⟨w, mem, inn, code⟩) (by with_reducible assumption)
    | exact sf_3 (p := ⟨w, mem, inn, code⟩) (by with_reducible assumption)
    | exact sf_2 (p := ⟨w, mem, inn, code⟩) (by with_reducible assumption)
    | exact sf_6 (p := ⟨w, mem, inn, code⟩) (by with_reducible assumption)
    | exact sf_4 (p := ⟨w, mem, inn, code⟩) (by with_reducible assumption)
    | exact sf_5 (p := ⟨w, mem, inn, code⟩) (by with_reducible assumption) (by with_reducible assumption) (by with_reducible assumption) (by with_reducible assumption) (by with_reducible assumption) (by with_reducible assumption)
    | ((with_reducible show (_ + _) * _ ≤ 140737488355328); refine cap16 _ _ ?_; rfl)
    | ((with_reducible show _ + _ ≤ maxLen); refine capM _ _ ?_; rfl)
    | ((with_reducible show Nat.le _ 100); have q := fact_b (p := ⟨w, mem, inn, code⟩) (show (progP _ && factP _ _) = true by with_reducible assumption); first | exact all3 (s_r q) (s_w _) (s_n q) _ (by with_reducible assumption) | exact all3 (s_r q) (s_w _) (s_rb q) _ (by with_reducible assumption) | exact all4 (s_r q) (s_w _) (s_b q) (s_n q) _ (by with_reducible assumption) | exact all4 (s_r q) (s_w _) (s_rb q) (s_n q) _ (by with_reducible assumption))
    | (have q := fact_b (p := ⟨w, mem, inn, code⟩) (show (progP _ && factP _ _) = true by with_reducible assumption); have q1 := q.a; have q2 := q.b; have q3 := q.n; omega)
    | (have q := (fact_r (p := ⟨w, mem, inn, code⟩) (show (progP _ && factP _ _) = true by with_reducible assumption)).k; simp only at q; omega)
    | decide
    | (simp only [List.length_append, List.length_cons, List.length_nil]; omega)
    | (show ([_, _] : List ByteArray).length ≤ _; simp only [List.length_cons, List.length_nil]; have hm : maxLen = 9223372036854775807 := rfl; omega)
    | rfl
    | skip
set_option maxHeartbeats 4000000 in
set_option maxRecDepth 100000 in
theorem law_FF (w mem inn : Int) (c : List V.Ins) (k a b n : Int) : CallsV Tryd.prog 3 [.agg [.dat (.i w), .dat (.i mem), .dat (.i inn), .dat (.seq .inss c)], .agg [.dat (.i k), .dat (.i a), .dat (.i b), .dat (.i n)]] (.dat (.bool true)) := by
  refine CallsV.of_awp tauOk mixOk Tryd.func3 rfl rfl rfl ?_
  conv => whnf
  repeat' (first
    | ((with_reducible refine Alt.l ?_); conv => whnf)
    | ((with_reducible refine fun (K1 : AX → AState → Prop) hK => ?_); conv => whnf)
    | ((with_reducible show K1 _ _); subst hK; conv => whnf)
    | (with_reducible exact rfl)
    | ((with_reducible refine sp_T ?_); conv => whnf)
    | ((with_reducible refine sp_F ?_); conv => whnf)
    | ((with_reducible refine sp_T' ?_); conv => whnf)
    | ((with_reducible refine sp_F' ?_); conv => whnf)
    | ((with_reducible refine sp_dF ?_ ?_); decide; conv => whnf)
    | ((with_reducible refine sp_dT ?_ ?_); decide; conv => whnf)
    | ((with_reducible refine sp_d (fun h => ?_) (fun h => ?_)) <;> first | contradiction | (subst h; conv => whnf) | (conv => whnf))
    | ((with_reducible refine sp_d' (fun h => ?_) (fun h => ?_)) <;> first | contradiction | (subst h; conv => whnf) | (conv => whnf))
    | ((with_reducible refine sp_eF ?_ ?_); decide; conv => whnf)
    | ((with_reducible refine sp_eT ?_); conv => whnf)
    | ((with_reducible refine sp_e (fun h => ?_) (fun h => ?_)) <;> first | contradiction | (subst h; conv => whnf) | (conv => whnf))
    | ((with_reducible refine sp_e' (fun h => ?_) (fun h => ?_)) <;> first | contradiction | (subst h; conv => whnf) | (conv => whnf))
    | ((with_reducible refine sp_n (fun h => ?_) (fun h => ?_)) <;> first | contradiction | (subst h; conv => whnf) | (conv => whnf))
    | ((with_reducible refine sp_n' (fun h => ?_) (fun h => ?_)) <;> first | contradiction | (subst h; conv => whnf) | (conv => whnf))
    | ((with_reducible refine sp_nb (fun h => ?_) (fun h => ?_)) <;> first | (exact Bool.noConfusion (Eq.trans (Eq.symm h) (show _ = true by with_reducible assumption))) | (exact Bool.noConfusion (Eq.trans (Eq.symm (show _ = false by with_reducible assumption)) h)) | (conv => whnf))
    | ((with_reducible refine sp_nb' (fun h => ?_) (fun h => ?_)) <;> first | (exact Bool.noConfusion (Eq.trans (Eq.symm h) (show _ = true by with_reducible assumption))) | (exact Bool.noConfusion (Eq.trans (Eq.symm (show _ = false by with_reducible assumption)) h)) | (conv => whnf))
    | ((with_reducible refine sp_b (fun h => ?_) (fun h => ?_)) <;> first | (exact Bool.noConfusion (Eq.trans (Eq.symm h) (show _ = true by with_reducible assumption))) | (exact Bool.noConfusion (Eq.trans (Eq.symm (show _ = false by with_reducible assumption)) h)) | (conv => whnf))
    | ((with_reducible refine sp_b' (fun h => ?_) (fun h => ?_)) <;> first | (exact Bool.noConfusion (Eq.trans (Eq.symm h) (show _ = true by with_reducible assumption))) | (exact Bool.noConfusion (Eq.trans (Eq.symm (show _ = false by with_reducible assumption)) h)) | (conv => whnf))
    | (refine ⟨(rfl : nodupB _ = true), rfl, ?_⟩; conv => whnf)
    | (with_reducible refine bnd2 ?_ ?_)
    | (with_reducible refine bnd2' ?_ ?_)
    | (with_reducible refine bndN ?_ ?_)
    | ((with_reducible refine and_of ?_ ?_); conv => whnf)
    | ((with_reducible refine pcI (g := 5) ?_); refine ⟨_, l_szProgram (h0 := ?_) (h1 := ?_) .., rfl, ?_⟩; rotate_right; conv => whnf)
    | ((with_reducible show Exists _); refine Exists.intro _ (And.intro (l_szProgram (h0 := ?_) (h1 := ?_) ..) (And.intro rfl ?_)); rotate_right; conv => whnf)
    | ((with_reducible refine pcI (g := 6) ?_); refine ⟨_, s_FormatFact .., rfl, ?_⟩; rotate_right; conv => whnf)
    | ((with_reducible show Exists _); refine Exists.intro _ (And.intro (s_FormatFact ..) (And.intro rfl ?_)); rotate_right; conv => whnf)
    | ((with_reducible refine pcI (g := 7) ?_); refine ⟨_, l_toProgram (hl := ?_) .., rfl, ?_⟩; rotate_right; conv => whnf)
    | ((with_reducible show Exists _); refine Exists.intro _ (And.intro (l_toProgram (hl := ?_) ..) (And.intro rfl ?_)); rotate_right; conv => whnf)
    | ((with_reducible refine pcI (g := 8) ?_); refine ⟨_, l_toFact .., rfl, ?_⟩; rotate_right; conv => whnf)
    | ((with_reducible show Exists _); refine Exists.intro _ (And.intro (l_toFact ..) (And.intro rfl ?_)); rotate_right; conv => whnf)
    | ((with_reducible refine pcI (g := 9) ?_); refine ⟨_, i_FormatFact .., rfl, ?_⟩; rotate_right; conv => whnf)
    | ((with_reducible show Exists _); refine Exists.intro _ (And.intro (i_FormatFact ..) (And.intro rfl ?_)); rotate_right; conv => whnf)
    | ((with_reducible refine pcI (g := 10) ?_); refine ⟨_, l_eqProgram .., rfl, ?_⟩; rotate_right; conv => whnf)
    | ((with_reducible show Exists _); refine Exists.intro _ (And.intro (l_eqProgram ..) (And.intro rfl ?_)); rotate_right; conv => whnf)
    | ((with_reducible show awpOps _ _ _ _ _ _); conv => whnf)
    | (intro h; conv => whnf))
  all_goals (repeat (clear hK; clear K1))
  all_goals first
    | omega
    | (simp at h; done)
    | (split at h <;> omega)
    | skip
end Vg
