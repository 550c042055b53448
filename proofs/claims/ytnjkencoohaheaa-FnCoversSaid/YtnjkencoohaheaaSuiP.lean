/- A region without loads of slices is walked operation by operation. No condition. -/
import Derived.Test.YtnjkencoohaheaaBase
import Derived.Test.YtnjkencoohaheaaCovA
namespace Vg
open Go Go.Proofs
def slLoad (τ : Tys) (o : Oper) : Bool := match o.op with
  | .load T _ => match τ T with
    | some i => match i.desc with
      | .slice _ _ => true
      | _ => false
    | none => true
  | _ => false
theorem markB_no {τ : Tys} {S : AState} {o : Oper} (h : slLoad τ o = false) : markB τ S o = false := by
  cases hm : markB τ S o with
  | false => rfl
  | true =>
    exfalso
    unfold markB at hm
    unfold slLoad at h
    split at hm
    · rename_i T p ho
      rw [ho] at h
      simp only at h
      split at hm
      · split at hm
        · rename_i i hi ht
          rw [ht] at h
          simp only at h
          split at hm
          · rename_i hd _
            rw [hd] at h
            cases h
          · cases hm
        · cases hm
      · cases hm
    · cases hm
theorem awpOps_cons {P : Program} {τ : Tys} {ops : Array Oper} (o : Oper) (rest : List Oper) (S : AState) (K : AState → Prop) : awpOps P τ ops [o] S (fun S => awpOps P τ ops rest S K) = awpOps P τ ops (o :: rest) S K := by
  simp only [awpOps]
theorem awpL_eq {P : Program} {τ : Tys} {ops : Array Oper} : ∀ (n : Nat) (l : List Oper), l.length ≤ n → ∀ (S : AState) (K : AState → Prop), l.all (fun o => !slLoad τ o) = true → awpL P τ ops l S K = awpOps P τ ops l S K
  | _, [], _, S, K, _ => by simp only [awpL, awpOps]
  | _, [o], _, S, K, _ => by simp only [awpL]
  | _, [o, o'], _, S, K, _ => by simp only [awpL]
  | 0, o1 :: o2 :: o3 :: rest, h, S, K, _ => by simp at h
  | n + 1, o1 :: o2 :: o3 :: rest, h, S, K, ha => by
    rw [List.all_cons, Bool.and_eq_true] at ha
    have h1 : markB τ S o1 = false := markB_no (by simpa using ha.1)
    have ih : (fun S => awpL P τ ops (o2 :: o3 :: rest) S K) = fun S => awpOps P τ ops (o2 :: o3 :: rest) S K :=
      funext fun S => awpL_eq n (o2 :: o3 :: rest) (by simp at h ⊢; omega) S K ha.2
    rw [awpL, h1, ih, awpOps_cons]
theorem awp_rg {P : Program} {τ : Tys} {i : Nat} {ops : Array Oper} {S : AState} {K : AX → AState → Prop} (h : ops.toList.all (fun o => !slLoad τ o) = true) (hA : awpOps P τ ops ops.toList S fun S => forceBs1 ops.toList S (K .normal)) : awp P τ (.region i ops false) S K := by
  rw [awp, awpL_eq _ _ (Nat.le_refl _) _ _ h]; exact hA
end Vg

namespace Vg
open Go Go.Proofs
def lessL : List Int → List Int → Bool
  | [], _ => false
  | _ :: _, [] => false
  | x :: a, y :: b => if x = y then lessL a b else decide (x < y)
def cmpL : List Int → List Int → Int
  | [], [] => 0
  | [], _ :: _ => -1
  | _ :: _, [] => 1
  | x :: a, y :: b => if x < y then -1 else if x > y then 1 else cmpL a b
theorem cmp_less : ∀ {a b : List Int}, a.length = b.length → (cmpL a b < 0 ↔ lessL a b = true)
  | [], [], _ => by simp [cmpL, lessL]
  | [], _ :: _, h => by simp at h
  | _ :: _, [], h => by simp at h
  | x :: a, y :: b, h => by
    have ih := cmp_less (a := a) (b := b) (by simpa using h)
    unfold cmpL lessL
    by_cases h1 : x < y
    · rw [if_pos h1, if_neg (by omega), decide_eq_true h1]; simp
    · by_cases h2 : x > y
      · rw [if_neg h1, if_pos h2, if_neg (by omega), decide_eq_false h1]; simp
      · rw [if_neg h1, if_neg h2, if_pos (by omega)]; exact ih
theorem drop_cons {l : List Int} {k : Nat} (h : k < l.length) : l.drop k = l.getD k K.ints.dflt :: l.drop (k + 1) := by
  rw [List.drop_eq_getElem_cons h, List.getD_eq_getElem?_getD, List.getElem?_eq_getElem h, Option.getD_some]
theorem cmp_end1 {a b : List Int} {k : Nat} (hk : (k : Int) < a.length) (hb : (k : Int) ≥ b.length) : cmpL (a.drop k) (b.drop k) = 1 := by
  rw [drop_cons (l := a) (by omega), show b.drop k = [] from List.drop_eq_nil_of_le (by omega)]; rfl
structure CmpI (a b : List Int) (k : Nat) : Prop where
  h1 : k ≤ a.length
  h2 : k ≤ b.length
  h3 : cmpL a b = cmpL (a.drop k) (b.drop k)
theorem cmpI_0 (a b : List Int) : CmpI a b 0 := ⟨Nat.zero_le _, Nat.zero_le _, by simp⟩
theorem cmpI_ge {a b : List Int} {k : Nat} (h : CmpI a b k) (hk : (k : Int) < a.length) (hb : (k : Int) ≥ b.length) : Dat.int .i64 1 = Dat.i (cmpL a b) := by rw [h.h3, cmp_end1 hk hb]
def cmpE (x y : Int) : Int := if x < y then -1 else if x > y then 1 else 0
theorem cmp_drop {a b : List Int} {k : Nat} (hk : (k : Int) < a.length) (hb : (k : Int) < b.length) : cmpL (a.drop k) (b.drop k) = if cmpE (a.getD (k : Int).toNat K.ints.dflt) (b.getD (k : Int).toNat K.ints.dflt) = 0 then cmpL (a.drop (k + 1)) (b.drop (k + 1)) else cmpE (a.getD (k : Int).toNat K.ints.dflt) (b.getD (k : Int).toNat K.ints.dflt) := by
  rw [Int.toNat_natCast, drop_cons (l := a) (by omega), drop_cons (l := b) (by omega)]
  unfold cmpE
  generalize a.getD k K.ints.dflt = x
  generalize b.getD k K.ints.dflt = y
  simp only [cmpL]
  by_cases h1 : x < y
  · simp [h1]
  · by_cases h2 : x > y
    · simp [h1, h2]
    · simp [h1, h2]
theorem cmpI_1 {a b : List Int} {k : Nat} (h : CmpI a b k) (hk : (k : Int) < a.length) (hb : ¬ (k : Int) ≥ b.length) (h0 : cmpE (a.getD (k : Int).toNat K.ints.dflt) (b.getD (k : Int).toNat K.ints.dflt) = 0) : CmpI a b (k + 1) :=
  ⟨by omega, by omega, by rw [h.h3, cmp_drop hk (by omega), if_pos h0]⟩
theorem cmpI_ne {a b : List Int} {k : Nat} (h : CmpI a b k) (hk : (k : Int) < a.length) (hb : ¬ (k : Int) ≥ b.length) (h0 : ¬ cmpE (a.getD (k : Int).toNat K.ints.dflt) (b.getD (k : Int).toNat K.ints.dflt) = 0) : Dat.i (cmpE (a.getD (k : Int).toNat K.ints.dflt) (b.getD (k : Int).toNat K.ints.dflt)) = Dat.i (cmpL a b) := by
  rw [h.h3, cmp_drop hk (by omega), if_neg h0]
theorem cmpI_lt {a b : List Int} {k : Nat} (h : CmpI a b k) (hk : ¬ (k : Int) < a.length) (hl : (a.length : Int) < b.length) : Dat.int .i64 (-1) = Dat.i (cmpL a b) := by
  have e : k = a.length := by have := h.h1; omega
  rw [h.h3, List.drop_eq_nil_of_le (by omega), drop_cons (l := b) (by omega)]; rfl
theorem cmpI_eq {a b : List Int} {k : Nat} (h : CmpI a b k) (hk : ¬ (k : Int) < a.length) (hl : ¬ (a.length : Int) < b.length) : Dat.int .i64 0 = Dat.i (cmpL a b) := by
  have := h.h1; have := h.h2
  rw [h.h3, List.drop_eq_nil_of_le (by omega), List.drop_eq_nil_of_le (by omega)]; rfl
set_option maxRecDepth 100000 in
theorem x_isNaN (x : Int) : CallsV Try.prog 137 [.dat (.i x)] (.dat (.bool false)) := by
  refine CallsV.of_awp tauOk mixOk Try.func137 rfl rfl rfl ?_
  conv => whnf
  repeat' (first
    | ((with_reducible refine Alt.l ?_); conv => whnf)
    | ((with_reducible refine fun (K1 : AX → AState → Prop) hK => ?_); conv => whnf)
    | ((with_reducible show K1 _ _); subst hK; conv => whnf)
    | (with_reducible exact rfl)
    | ((with_reducible refine sp_T ?_); conv => whnf)
    | ((with_reducible refine sp_F ?_); conv => whnf)
    | ((with_reducible refine sp_T' ?_); conv => whnf)
    | ((with_reducible refine sp_F' ?_); conv => whnf)
    | ((with_reducible refine sp_dF ?_ ?_); decide; conv => whnf)
    | ((with_reducible refine sp_dT ?_ ?_); decide; conv => whnf)
    | ((with_reducible refine sp_d (fun h => ?_) (fun h => ?_)) <;> first | contradiction | (subst h; conv => whnf) | (conv => whnf))
    | ((with_reducible refine sp_d' (fun h => ?_) (fun h => ?_)) <;> first | contradiction | (subst h; conv => whnf) | (conv => whnf))
    | ((with_reducible refine sp_eF ?_ ?_); decide; conv => whnf)
    | ((with_reducible refine sp_eT ?_); conv => whnf)
    | ((with_reducible refine sp_e (fun h => ?_) (fun h => ?_)) <;> first | contradiction | (subst h; conv => whnf) | (conv => whnf))
    | ((with_reducible refine sp_e' (fun h => ?_) (fun h => ?_)) <;> first | contradiction | (subst h; conv => whnf) | (conv => whnf))
    | ((with_reducible refine sp_n (fun h => ?_) (fun h => ?_)) <;> first | contradiction | (subst h; conv => whnf) | (conv => whnf))
    | ((with_reducible refine sp_n' (fun h => ?_) (fun h => ?_)) <;> first | contradiction | (subst h; conv => whnf) | (conv => whnf))
    | ((with_reducible refine sp_nb (fun h => ?_) (fun h => ?_)) <;> first | (exact Bool.noConfusion (Eq.trans (Eq.symm h) (show _ = true by with_reducible assumption))) | (exact Bool.noConfusion (Eq.trans (Eq.symm (show _ = false by with_reducible assumption)) h)) | (conv => whnf))
    | ((with_reducible refine sp_nb' (fun h => ?_) (fun h => ?_)) <;> first | (exact Bool.noConfusion (Eq.trans (Eq.symm h) (show _ = true by with_reducible assumption))) | (exact Bool.noConfusion (Eq.trans (Eq.symm (show _ = false by with_reducible assumption)) h)) | (conv => whnf))
    | ((with_reducible refine sp_b (fun h => ?_) (fun h => ?_)) <;> first | (exact Bool.noConfusion (Eq.trans (Eq.symm h) (show _ = true by with_reducible assumption))) | (exact Bool.noConfusion (Eq.trans (Eq.symm (show _ = false by with_reducible assumption)) h)) | (conv => whnf))
    | ((with_reducible refine sp_b' (fun h => ?_) (fun h => ?_)) <;> first | (exact Bool.noConfusion (Eq.trans (Eq.symm h) (show _ = true by with_reducible assumption))) | (exact Bool.noConfusion (Eq.trans (Eq.symm (show _ = false by with_reducible assumption)) h)) | (conv => whnf))
    | (refine ⟨(rfl : nodupB _ = true), rfl, ?_⟩; conv => whnf)
    | (with_reducible refine bnd2 ?_ ?_)
    | (with_reducible refine bnd2' ?_ ?_)
    | (with_reducible refine bndN ?_ ?_)
    | ((with_reducible refine and_of ?_ ?_); conv => whnf)
    | ((with_reducible show awpOps _ _ _ _ _ _); conv => whnf)
    | (intro h; conv => whnf))
  all_goals (repeat (clear hK; clear K1))
  all_goals first | rfl | exact congrArg Dat.bool (by simp) | skip
set_option maxRecDepth 100000 in
theorem x_Compare (x y : Int) : CallsV Try.prog 129 [.dat (.i x), .dat (.i y)] (.dat (.i (cmpE x y))) := by
  refine CallsV.of_awp tauOk mixOk Try.func129 rfl rfl rfl ?_
  conv => whnf
  repeat' (first
    | ((with_reducible refine Alt.l ?_); conv => whnf)
    | ((with_reducible refine fun (K1 : AX → AState → Prop) hK => ?_); conv => whnf)
    | ((with_reducible show K1 _ _); subst hK; conv => whnf)
    | (with_reducible exact rfl)
    | ((with_reducible refine sp_T ?_); conv => whnf)
    | ((with_reducible refine sp_F ?_); conv => whnf)
    | ((with_reducible refine sp_T' ?_); conv => whnf)
    | ((with_reducible refine sp_F' ?_); conv => whnf)
    | ((with_reducible refine sp_dF ?_ ?_); decide; conv => whnf)
    | ((with_reducible refine sp_dT ?_ ?_); decide; conv => whnf)
    | ((with_reducible refine sp_d (fun h => ?_) (fun h => ?_)) <;> first | contradiction | (subst h; conv => whnf) | (conv => whnf))
    | ((with_reducible refine sp_d' (fun h => ?_) (fun h => ?_)) <;> first | contradiction | (subst h; conv => whnf) | (conv => whnf))
    | ((with_reducible refine sp_eF ?_ ?_); decide; conv => whnf)
    | ((with_reducible refine sp_eT ?_); conv => whnf)
    | ((with_reducible refine sp_e (fun h => ?_) (fun h => ?_)) <;> first | contradiction | (subst h; conv => whnf) | (conv => whnf))
    | ((with_reducible refine sp_e' (fun h => ?_) (fun h => ?_)) <;> first | contradiction | (subst h; conv => whnf) | (conv => whnf))
    | ((with_reducible refine sp_n (fun h => ?_) (fun h => ?_)) <;> first | contradiction | (subst h; conv => whnf) | (conv => whnf))
    | ((with_reducible refine sp_n' (fun h => ?_) (fun h => ?_)) <;> first | contradiction | (subst h; conv => whnf) | (conv => whnf))
    | ((with_reducible refine sp_nb (fun h => ?_) (fun h => ?_)) <;> first | (exact Bool.noConfusion (Eq.trans (Eq.symm h) (show _ = true by with_reducible assumption))) | (exact Bool.noConfusion (Eq.trans (Eq.symm (show _ = false by with_reducible assumption)) h)) | (conv => whnf))
    | ((with_reducible refine sp_nb' (fun h => ?_) (fun h => ?_)) <;> first | (exact Bool.noConfusion (Eq.trans (Eq.symm h) (show _ = true by with_reducible assumption))) | (exact Bool.noConfusion (Eq.trans (Eq.symm (show _ = false by with_reducible assumption)) h)) | (conv => whnf))
    | ((with_reducible refine sp_b (fun h => ?_) (fun h => ?_)) <;> first | (exact Bool.noConfusion (Eq.trans (Eq.symm h) (show _ = true by with_reducible assumption))) | (exact Bool.noConfusion (Eq.trans (Eq.symm (show _ = false by with_reducible assumption)) h)) | (conv => whnf))
    | ((with_reducible refine sp_b' (fun h => ?_) (fun h => ?_)) <;> first | (exact Bool.noConfusion (Eq.trans (Eq.symm h) (show _ = true by with_reducible assumption))) | (exact Bool.noConfusion (Eq.trans (Eq.symm (show _ = false by with_reducible assumption)) h)) | (conv => whnf))
    | (refine ⟨(rfl : nodupB _ = true), rfl, ?_⟩; conv => whnf)
    | (with_reducible refine bnd2 ?_ ?_)
    | (with_reducible refine bnd2' ?_ ?_)
    | (with_reducible refine bndN ?_ ?_)
    | ((with_reducible refine and_of ?_ ?_); conv => whnf)
    | ((with_reducible refine pcI (g := 137) ?_); refine ⟨_, x_isNaN .., rfl, ?_⟩; rotate_right; conv => whnf)
    | ((with_reducible show Exists _); refine Exists.intro _ (And.intro (x_isNaN ..) (And.intro rfl ?_)); rotate_right; conv => whnf)
    | ((with_reducible show awpOps _ _ _ _ _ _); conv => whnf)
    | (intro h; conv => whnf))
  all_goals (repeat (clear hK; clear K1))
  all_goals first | (unfold cmpE; rw [if_pos (by assumption)]; done) | (unfold cmpE; rw [if_neg (by assumption), if_pos (by assumption)]; done) | (unfold cmpE; rw [if_neg (by assumption), if_neg (by assumption)]; done) | (simp_all [cmpE]; done) | skip
set_option maxHeartbeats 2000000 in
set_option maxRecDepth 100000 in
theorem x_CompareL (a b : List Int) : CallsV Try.prog 101 [.dat (.seq .ints a), .dat (.seq .ints b)] (.dat (.i (cmpL a b))) := by
  refine CallsV.of_awp tauOk mixOk Try.func101 rfl rfl rfl ?_
  conv => whnf
  repeat' (first
    | ((with_reducible refine Alt.l ?_); conv => whnf)
    | ((with_reducible refine fun (K1 : AX → AState → Prop) hK => ?_); conv => whnf)
    | ((with_reducible show K1 _ _); subst hK; conv => whnf)
    | (with_reducible exact rfl)
    | ((with_reducible refine sp_T ?_); conv => whnf)
    | ((with_reducible refine sp_F ?_); conv => whnf)
    | ((with_reducible refine sp_T' ?_); conv => whnf)
    | ((with_reducible refine sp_F' ?_); conv => whnf)
    | ((with_reducible refine sp_dF ?_ ?_); decide; conv => whnf)
    | ((with_reducible refine sp_dT ?_ ?_); decide; conv => whnf)
    | ((with_reducible refine sp_d (fun h => ?_) (fun h => ?_)) <;> first | contradiction | (subst h; conv => whnf) | (conv => whnf))
    | ((with_reducible refine sp_d' (fun h => ?_) (fun h => ?_)) <;> first | contradiction | (subst h; conv => whnf) | (conv => whnf))
    | ((with_reducible refine sp_eF ?_ ?_); decide; conv => whnf)
    | ((with_reducible refine sp_eT ?_); conv => whnf)
    | ((with_reducible refine sp_e (fun h => ?_) (fun h => ?_)) <;> first | contradiction | (subst h; conv => whnf) | (conv => whnf))
    | ((with_reducible refine sp_e' (fun h => ?_) (fun h => ?_)) <;> first | contradiction | (subst h; conv => whnf) | (conv => whnf))
    | ((with_reducible refine sp_n (fun h => ?_) (fun h => ?_)) <;> first | contradiction | (subst h; conv => whnf) | (conv => whnf))
    | ((with_reducible refine sp_n' (fun h => ?_) (fun h => ?_)) <;> first | contradiction | (subst h; conv => whnf) | (conv => whnf))
    | ((with_reducible refine sp_nb (fun h => ?_) (fun h => ?_)) <;> first | (exact Bool.noConfusion (Eq.trans (Eq.symm h) (show _ = true by with_reducible assumption))) | (exact Bool.noConfusion (Eq.trans (Eq.symm (show _ = false by with_reducible assumption)) h)) | (conv => whnf))
    | ((with_reducible refine sp_nb' (fun h => ?_) (fun h => ?_)) <;> first | (exact Bool.noConfusion (Eq.trans (Eq.symm h) (show _ = true by with_reducible assumption))) | (exact Bool.noConfusion (Eq.trans (Eq.symm (show _ = false by with_reducible assumption)) h)) | (conv => whnf))
    | ((with_reducible refine sp_b (fun h => ?_) (fun h => ?_)) <;> first | (exact Bool.noConfusion (Eq.trans (Eq.symm h) (show _ = true by with_reducible assumption))) | (exact Bool.noConfusion (Eq.trans (Eq.symm (show _ = false by with_reducible assumption)) h)) | (conv => whnf))
    | ((with_reducible refine sp_b' (fun h => ?_) (fun h => ?_)) <;> first | (exact Bool.noConfusion (Eq.trans (Eq.symm h) (show _ = true by with_reducible assumption))) | (exact Bool.noConfusion (Eq.trans (Eq.symm (show _ = false by with_reducible assumption)) h)) | (conv => whnf))
    | (refine ⟨(rfl : nodupB _ = true), rfl, ?_⟩; conv => whnf)
    | (with_reducible refine bnd2 ?_ ?_)
    | (with_reducible refine bnd2' ?_ ?_)
    | (with_reducible refine bndN ?_ ?_)
    | ((with_reducible refine and_of ?_ ?_); conv => whnf)
    | (refine Exists.intro ({k : Nat // CmpI a b k}) (Exists.intro (fun ⟨k, hI⟩ => mkS Try.f101.ntmps [(0, .dat (.seq .ints a)), (1, .dat (.seq .ints b)), (9, .dat (.seq .ints a)), (10, .dat (.i a.length)), (11, .dat (.i k))] []) (Exists.intro (fun ⟨k, hI⟩ => a.length - k) (Exists.intro ⟨0, cmpI_0 a b⟩ (And.intro (SubP.sub (σ := []) ⟨⟨rfl, rfl, rfl⟩, ⟨(wk_dat ?_), (wk_dat ?_), (wk_dat ?_), (wk_dat ?_), (wk_dat ?_), trivial⟩, trivial⟩) (fun ⟨k, hI⟩ => ?_))))); rotate_right; conv => whnf)
    | (refine Exists.intro ⟨k + 1, ?_⟩ (And.intro ?_ (SubP.sub (σ := []) ⟨⟨rfl, rfl, rfl⟩, ⟨(wk_dat ?_), (wk_dat ?_), (wk_dat ?_), (wk_dat ?_), (wk_dat ?_), trivial⟩, trivial⟩)))
    | ((with_reducible refine pcI (g := 129) ?_); refine ⟨_, x_Compare .., rfl, ?_⟩; rotate_right; conv => whnf)
    | ((with_reducible show Exists _); refine Exists.intro _ (And.intro (x_Compare ..) (And.intro rfl ?_)); rotate_right; conv => whnf)
    | ((with_reducible show awpOps _ _ _ _ _ _); conv => whnf)
    | (intro h; conv => whnf))
  all_goals (repeat (clear hK; clear K1))
  all_goals first
    | (with_reducible assumption)
    | (with_reducible rfl)
    | exact cmpI_ge hI (by with_reducible assumption) (by with_reducible assumption)
    | exact (cmpI_ge hI (by with_reducible assumption) (by with_reducible assumption)).symm
    | exact cmpI_1 hI (by with_reducible assumption) (by with_reducible assumption) (by with_reducible assumption)
    | exact cmpI_ne hI (by with_reducible assumption) (by with_reducible assumption) (by with_reducible assumption)
    | exact (cmpI_ne hI (by with_reducible assumption) (by with_reducible assumption) (by with_reducible assumption)).symm
    | exact cmpI_lt hI (by with_reducible assumption) (by with_reducible assumption)
    | exact (cmpI_lt hI (by with_reducible assumption) (by with_reducible assumption)).symm
    | exact cmpI_eq hI (by with_reducible assumption) (by with_reducible assumption)
    | exact (cmpI_eq hI (by with_reducible assumption) (by with_reducible assumption)).symm
    | exact congrArg (Dat.int .i64) (wrap_succ (by with_reducible assumption) (by with_reducible assumption)).symm
    | exact (rfl : Dat.i ((0 : Nat) : Int) = Dat.int .i64 0)
    | omega
    | (dsimp only; omega)
    | skip
structure LessI (a b : List Int) (k : Nat) : Prop where
  h1 : k ≤ a.length
  h3 : lessL a b = lessL (a.drop k) (b.drop k)
theorem less_drop {a b : List Int} {k : Nat} (hk : (k : Int) < a.length) (hb : a.length = b.length) : lessL (a.drop k) (b.drop k) = if a.getD (k : Int).toNat K.ints.dflt = b.getD (k : Int).toNat K.ints.dflt then lessL (a.drop (k + 1)) (b.drop (k + 1)) else decide (a.getD (k : Int).toNat K.ints.dflt < b.getD (k : Int).toNat K.ints.dflt) := by
  rw [Int.toNat_natCast, drop_cons (l := a) (by omega), drop_cons (l := b) (by omega)]; rfl
theorem lessI_0 (a b : List Int) : LessI a b 0 := ⟨Nat.zero_le _, by simp⟩
theorem lessI_1 {a b : List Int} {k : Nat} (h : LessI a b k) (hb : a.length = b.length) (hk : (k : Int) < a.length) (h0 : a.getD (k : Int).toNat K.ints.dflt = b.getD (k : Int).toNat K.ints.dflt) : LessI a b (k + 1) :=
  ⟨by omega, by rw [h.h3, less_drop hk hb, if_pos h0]⟩
theorem lessI_ne {a b : List Int} {k : Nat} (h : LessI a b k) (hb : a.length = b.length) (hk : (k : Int) < a.length) (h0 : ¬ a.getD (k : Int).toNat K.ints.dflt = b.getD (k : Int).toNat K.ints.dflt) : Dat.bool (decide (a.getD (k : Int).toNat K.ints.dflt < b.getD (k : Int).toNat K.ints.dflt)) = Dat.bool (lessL a b) := by
  rw [h.h3, less_drop hk hb, if_neg h0]
theorem lessI_end {a b : List Int} {k : Nat} (h : LessI a b k) (hk : ¬ (k : Int) < a.length) : Dat.bool false = Dat.bool (lessL a b) := by
  rw [h.h3, List.drop_eq_nil_of_le (by omega)]; rfl
set_option maxHeartbeats 2000000 in
set_option maxRecDepth 100000 in
theorem s_l09Less (a b : List Int) (hab : a.length = b.length) : CallsV Try.prog 102 [.dat (.seq .ints a), .dat (.seq .ints b)] (.dat (.bool (lessL a b))) := by
  refine CallsV.of_awp tauOk mixOk Try.func102 rfl rfl rfl ?_
  conv => whnf
  repeat' (first
    | ((with_reducible refine Alt.l ?_); conv => whnf)
    | ((with_reducible refine fun (K1 : AX → AState → Prop) hK => ?_); conv => whnf)
    | ((with_reducible show K1 _ _); subst hK; conv => whnf)
    | (with_reducible exact rfl)
    | ((with_reducible refine sp_T ?_); conv => whnf)
    | ((with_reducible refine sp_F ?_); conv => whnf)
    | ((with_reducible refine sp_T' ?_); conv => whnf)
    | ((with_reducible refine sp_F' ?_); conv => whnf)
    | ((with_reducible refine sp_dF ?_ ?_); decide; conv => whnf)
    | ((with_reducible refine sp_dT ?_ ?_); decide; conv => whnf)
    | ((with_reducible refine sp_d (fun h => ?_) (fun h => ?_)) <;> first | contradiction | (subst h; conv => whnf) | (conv => whnf))
    | ((with_reducible refine sp_d' (fun h => ?_) (fun h => ?_)) <;> first | contradiction | (subst h; conv => whnf) | (conv => whnf))
    | ((with_reducible refine sp_eF ?_ ?_); decide; conv => whnf)
    | ((with_reducible refine sp_eT ?_); conv => whnf)
    | ((with_reducible refine sp_e (fun h => ?_) (fun h => ?_)) <;> first | contradiction | (subst h; conv => whnf) | (conv => whnf))
    | ((with_reducible refine sp_e' (fun h => ?_) (fun h => ?_)) <;> first | contradiction | (subst h; conv => whnf) | (conv => whnf))
    | ((with_reducible refine sp_n (fun h => ?_) (fun h => ?_)) <;> first | contradiction | (subst h; conv => whnf) | (conv => whnf))
    | ((with_reducible refine sp_n' (fun h => ?_) (fun h => ?_)) <;> first | contradiction | (subst h; conv => whnf) | (conv => whnf))
    | ((with_reducible refine sp_nb (fun h => ?_) (fun h => ?_)) <;> first | (exact Bool.noConfusion (Eq.trans (Eq.symm h) (show _ = true by with_reducible assumption))) | (exact Bool.noConfusion (Eq.trans (Eq.symm (show _ = false by with_reducible assumption)) h)) | (conv => whnf))
    | ((with_reducible refine sp_nb' (fun h => ?_) (fun h => ?_)) <;> first | (exact Bool.noConfusion (Eq.trans (Eq.symm h) (show _ = true by with_reducible assumption))) | (exact Bool.noConfusion (Eq.trans (Eq.symm (show _ = false by with_reducible assumption)) h)) | (conv => whnf))
    | ((with_reducible refine sp_b (fun h => ?_) (fun h => ?_)) <;> first | (exact Bool.noConfusion (Eq.trans (Eq.symm h) (show _ = true by with_reducible assumption))) | (exact Bool.noConfusion (Eq.trans (Eq.symm (show _ = false by with_reducible assumption)) h)) | (conv => whnf))
    | ((with_reducible refine sp_b' (fun h => ?_) (fun h => ?_)) <;> first | (exact Bool.noConfusion (Eq.trans (Eq.symm h) (show _ = true by with_reducible assumption))) | (exact Bool.noConfusion (Eq.trans (Eq.symm (show _ = false by with_reducible assumption)) h)) | (conv => whnf))
    | (refine ⟨(rfl : nodupB _ = true), rfl, ?_⟩; conv => whnf)
    | (with_reducible refine bnd2 ?_ ?_)
    | (with_reducible refine bnd2' ?_ ?_)
    | (with_reducible refine bndN ?_ ?_)
    | ((with_reducible refine and_of ?_ ?_); conv => whnf)
    | (refine Exists.intro ({k : Nat // LessI a b k}) (Exists.intro (fun ⟨k, hI⟩ => mkS Try.f102.ntmps [(1, .dat (.seq .ints b)), (7, .dat (.seq .ints a)), (8, .dat (.i a.length)), (9, .dat (.i k))] []) (Exists.intro (fun ⟨k, hI⟩ => a.length - k) (Exists.intro ⟨0, lessI_0 a b⟩ (And.intro (SubP.sub (σ := []) ⟨⟨rfl, rfl, rfl⟩, ⟨(wk_dat ?_), (wk_dat ?_), (wk_dat ?_), (wk_dat ?_), trivial⟩, trivial⟩) (fun ⟨k, hI⟩ => ?_))))); rotate_right; conv => whnf)
    | (refine Exists.intro ⟨k + 1, ?_⟩ (And.intro ?_ (SubP.sub (σ := []) ⟨⟨rfl, rfl, rfl⟩, ⟨(wk_dat ?_), (wk_dat ?_), (wk_dat ?_), (wk_dat ?_), trivial⟩, trivial⟩)))
    | ((with_reducible show awpOps _ _ _ _ _ _); conv => whnf)
    | (intro h; conv => whnf))
  all_goals (repeat (clear hK; clear K1))
  all_goals first
    | (with_reducible assumption)
    | (with_reducible rfl)
    | exact lessI_1 hI hab (by with_reducible assumption) (by with_reducible assumption)
    | exact lessI_ne hI hab (by with_reducible assumption) (by with_reducible assumption)
    | exact (lessI_ne hI hab (by with_reducible assumption) (by with_reducible assumption)).symm
    | exact lessI_end hI (by with_reducible assumption)
    | exact (lessI_end hI (by with_reducible assumption)).symm
    | exact congrArg (Dat.int .i64) (wrap_succ (by with_reducible assumption) (by with_reducible assumption)).symm
    | exact (rfl : Dat.i ((0 : Nat) : Int) = Dat.int .i64 0)
    | omega
    | (dsimp only; omega)
    | skip
def bitE (m k : Int) : Bool := IntKind.i64.wrap (BitVec.ofInt IntKind.i64.bits (m.fdiv (2 ^ (min k.toNat IntKind.i64.bits))) &&& BitVec.ofInt IntKind.i64.bits 1).toNat == 1
def lstTo (m : Nat) : Nat → List Int
  | 0 => []
  | k + 1 => lstTo m k ++ if bitE m k = true then [(k : Int)] else []
def someTo (ts : List (List Int)) (m : Nat) : Nat → List (List Int)
  | 0 => []
  | k + 1 => someTo ts m k ++ if bitE m k = true then [ts.getD k []] else []
def gotTo (p : V.Prog) (ts : List (List Int)) (fuel : Int) (m : Nat) : Nat → List Int
  | 0 => []
  | k + 1 => gotTo p ts fuel m k ++ if bitE m k = true then asc (rawTo p (ts.getD k []) fuel.toNat) else []
theorem lst_len (m k : Nat) : (lstTo m k).length ≤ k := by
  induction k with
  | zero => exact Nat.le_refl _
  | succ k ih => simp only [lstTo, List.length_append]; split <;> simp <;> omega
theorem some_len (ts : List (List Int)) (m k : Nat) : (someTo ts m k).length ≤ k := by
  induction k with
  | zero => exact Nat.le_refl _
  | succ k ih => simp only [someTo, List.length_append]; split <;> simp <;> omega
theorem some_ok {p : V.Prog} {ts : List (List Int)} (h : ts.all (fun x => inputsP p x) = true) (m : Nat) : ∀ k, k ≤ ts.length → (someTo ts m k).all (fun x => inputsP p x) = true
  | 0, _ => rfl
  | k + 1, hk => by
    simp only [someTo, List.all_append, some_ok h m k (by omega), Bool.true_and]
    split
    · simp only [List.all_cons, List.all_nil, Bool.and_true]; exact all_at h (by omega)
    · rfl
theorem all_mem {p : V.Prog} {ts : List (List Int)} {fuel : Int} {x : Int} : ∀ {k : Nat}, x ∈ allTo p ts fuel k ↔ ∃ i, i < k ∧ x ∈ rawTo p (ts.getD i []) fuel.toNat
  | 0 => by simp [allTo]
  | k + 1 => by
    simp only [allTo, List.mem_append, asc_mem, all_mem (k := k)]
    constructor
    · rintro (⟨i, h1, h2⟩ | h)
      · exact ⟨i, by omega, h2⟩
      · exact ⟨k, by omega, h⟩
    · rintro ⟨i, h1, h2⟩
      by_cases e : i = k
      · subst e; exact .inr h2
      · exact .inl ⟨i, by omega, h2⟩
theorem all_mem' {p : V.Prog} {ts : List (List Int)} {fuel : Int} {x : Int} : x ∈ allTo p ts fuel ts.length ↔ ∃ t ∈ ts, x ∈ rawTo p t fuel.toNat := by
  rw [all_mem]
  constructor
  · rintro ⟨i, h1, h2⟩
    rw [List.getD_eq_getElem?_getD, List.getElem?_eq_getElem h1] at h2
    exact ⟨_, List.getElem_mem h1, h2⟩
  · rintro ⟨t, h1, h2⟩
    obtain ⟨i, hi, rfl⟩ := List.getElem_of_mem h1
    exact ⟨i, hi, by rw [List.getD_eq_getElem?_getD, List.getElem?_eq_getElem hi]; exact h2⟩
theorem some_mem {ts : List (List Int)} {m : Nat} {t : List Int} : ∀ {k : Nat}, t ∈ someTo ts m k ↔ ∃ i : Nat, i < k ∧ bitE m i = true ∧ t = ts.getD i []
  | 0 => by simp [someTo]
  | k + 1 => by
    simp only [someTo, List.mem_append, some_mem (k := k)]
    constructor
    · rintro (⟨i, h1, h2⟩ | h)
      · exact ⟨i, by omega, h2⟩
      · split at h
        · rw [List.mem_singleton] at h; subst h; exact ⟨k, by omega, by assumption, rfl⟩
        · simp at h
    · rintro ⟨i, h1, h2, rfl⟩
      by_cases e : i = k
      · subst e; right; rw [if_pos h2]; exact List.mem_singleton.2 rfl
      · exact .inl ⟨i, by omega, h2, rfl⟩
theorem got_mem {p : V.Prog} {ts : List (List Int)} {fuel : Int} {m : Nat} {x : Int} : ∀ {k : Nat}, x ∈ gotTo p ts fuel m k ↔ ∃ i : Nat, i < k ∧ bitE m i = true ∧ x ∈ rawTo p (ts.getD i []) fuel.toNat
  | 0 => by simp [gotTo]
  | k + 1 => by
    simp only [gotTo, List.mem_append, got_mem (k := k)]
    constructor
    · rintro (⟨i, h1, h2⟩ | h)
      · exact ⟨i, by omega, h2⟩
      · split at h
        · exact ⟨k, by omega, by assumption, asc_mem.1 h⟩
        · simp at h
    · rintro ⟨i, h1, h2, h3⟩
      by_cases e : i = k
      · subst e; right; rw [if_pos h2]; exact asc_mem.2 h3
      · exact .inl ⟨i, by omega, h2, h3⟩
theorem got_some (p : V.Prog) (ts : List (List Int)) (fuel : Int) (m k : Nat) : asc (allTo p (someTo ts m k) fuel (someTo ts m k).length) = asc (gotTo p ts fuel m k) :=
  asc_eq fun x => by
    rw [all_mem', got_mem]
    constructor
    · rintro ⟨t, h1, h2⟩
      obtain ⟨i, h3, h4, rfl⟩ := some_mem.1 h1
      exact ⟨i, h3, h4, h2⟩
    · rintro ⟨i, h1, h2, h3⟩
      exact ⟨_, some_mem.2 ⟨i, h1, h2, rfl⟩, h3⟩
theorem got_len {p : V.Prog} {ts : List (List Int)} {fuel : Int} (hf : inP fuel 0 400 = true) (m k : Nat) : (gotTo p ts fuel m k).length ≤ 400 * k := by
  induction k with
  | zero => simp [gotTo]
  | succ k ih =>
    have h1 := asc_len (rawTo p (ts.getD k []) fuel.toNat)
    have h2 := raw_len p (ts.getD k []) fuel.toNat
    have h3 := cfuel_b hf
    simp only [gotTo, List.length_append]
    split
    · omega
    · simp; omega
def bestTo (p : V.Prog) (ts : List (List Int)) (fuel : Int) : Nat → List Int × Bool
  | 0 => ([], false)
  | m + 1 => if asc (gotTo p ts fuel m ts.length) = asc (allTo p ts fuel ts.length) ∧ ((bestTo p ts fuel m).2 = false ∨ (lstTo m ts.length).length < (bestTo p ts fuel m).1.length ∨ ((lstTo m ts.length).length = (bestTo p ts fuel m).1.length ∧ lessL (lstTo m ts.length) (bestTo p ts fuel m).1 = true)) then (lstTo m ts.length, true) else bestTo p ts fuel m
theorem best_len (p : V.Prog) (ts : List (List Int)) (fuel : Int) (m : Nat) : (bestTo p ts fuel m).1.length ≤ ts.length := by
  induction m with
  | zero => simp [bestTo]
  | succ m ih =>
    simp only [bestTo]
    split
    · exact lst_len m _
    · exact ih
theorem best_no {p : V.Prog} {ts : List (List Int)} {fuel : Int} {m : Nat} (h : ¬ asc (gotTo p ts fuel m ts.length) = asc (allTo p ts fuel ts.length)) : bestTo p ts fuel (m + 1) = bestTo p ts fuel m := by
  simp only [bestTo]; rw [if_neg (fun x => h x.1)]
theorem best_yes {p : V.Prog} {ts : List (List Int)} {fuel : Int} {m : Nat} (h : asc (gotTo p ts fuel m ts.length) = asc (allTo p ts fuel ts.length)) (h2 : (bestTo p ts fuel m).2 = false ∨ (lstTo m ts.length).length < (bestTo p ts fuel m).1.length ∨ ((lstTo m ts.length).length = (bestTo p ts fuel m).1.length ∧ lessL (lstTo m ts.length) (bestTo p ts fuel m).1 = true)) : bestTo p ts fuel (m + 1) = (lstTo m ts.length, true) := by
  simp only [bestTo]; rw [if_pos ⟨h, h2⟩]
theorem best_not {p : V.Prog} {ts : List (List Int)} {fuel : Int} {m : Nat} (h2 : ¬ ((bestTo p ts fuel m).2 = false ∨ (lstTo m ts.length).length < (bestTo p ts fuel m).1.length ∨ ((lstTo m ts.length).length = (bestTo p ts fuel m).1.length ∧ lessL (lstTo m ts.length) (bestTo p ts fuel m).1 = true))) : bestTo p ts fuel (m + 1) = bestTo p ts fuel m := by
  simp only [bestTo]; rw [if_neg (fun x => h2 x.2)]
theorem bit_y {m k : Nat} (h : IntKind.i64.wrap (BitVec.ofInt IntKind.i64.bits ((m : Int).fdiv (2 ^ (min (k : Int).toNat IntKind.i64.bits))) &&& BitVec.ofInt IntKind.i64.bits 1).toNat = 1) : bitE m k = true := by unfold bitE; rw [h]; rfl
theorem bit_n {m k : Nat} (h : ¬ IntKind.i64.wrap (BitVec.ofInt IntKind.i64.bits ((m : Int).fdiv (2 ^ (min (k : Int).toNat IntKind.i64.bits))) &&& BitVec.ofInt IntKind.i64.bits 1).toNat = 1) : bitE m k = false := by
  unfold bitE; exact beq_eq_false_iff_ne.2 h
theorem u64_small {k : Nat} (h : k ≤ 10) : IntKind.u64.wrap ((k : Nat) : Int) = k := by
  have : ∀ k < 11, IntKind.u64.wrap ((k : Nat) : Int) = k := by decide
  exact this k (by omega)
theorem lst_y {m k : Nat} (h : bitE m k = true) : lstTo m (k + 1) = lstTo m k ++ [(k : Int)] := by simp only [lstTo, if_pos h]
theorem lst_n {m k : Nat} (h : bitE m k = false) : lstTo m (k + 1) = lstTo m k := by simp only [lstTo, h, Bool.false_eq_true, if_false, List.append_nil]
theorem some_y {ts : List (List Int)} {m k : Nat} (h : bitE m k = true) : someTo ts m (k + 1) = someTo ts m k ++ [ts.getD k []] := by simp only [someTo, if_pos h]
theorem some_n {ts : List (List Int)} {m k : Nat} (h : bitE m k = false) : someTo ts m (k + 1) = someTo ts m k := by simp only [someTo, h, Bool.false_eq_true, if_false, List.append_nil]
theorem got_y {p : V.Prog} {ts : List (List Int)} {fuel : Int} {m k : Nat} (h : bitE m k = true) : gotTo p ts fuel m (k + 1) = gotTo p ts fuel m k ++ asc (rawTo p (ts.getD k []) fuel.toNat) := by simp only [gotTo, if_pos h]
theorem got_n {p : V.Prog} {ts : List (List Int)} {fuel : Int} {m k : Nat} (h : bitE m k = false) : gotTo p ts fuel m (k + 1) = gotTo p ts fuel m k := by simp only [gotTo, h, Bool.false_eq_true, if_false, List.append_nil]
theorem pow_n {n : Nat} (h : n ≤ 10) : IntKind.i64.wrap (1 * 2 ^ min ((n : Nat) : Int).toNat IntKind.i64.bits) = ((2 ^ n : Nat) : Int) := by
  have : ∀ k < 11, IntKind.i64.wrap (1 * 2 ^ min ((k : Nat) : Int).toNat IntKind.i64.bits) = ((2 ^ k : Nat) : Int) := by decide
  exact this n (by omega)
theorem pow_le {n : Nat} (h : n ≤ 10) : 2 ^ n ≤ 1024 := Nat.pow_le_pow_right (n := 2) (by decide) h
def edgL (p : V.Prog) (ts : List (List Int)) (fuel : Int) : List (List Int) := ts.map fun t => asc (rawTo p t fuel.toNat)
theorem edgL_len (p : V.Prog) (ts : List (List Int)) (fuel : Int) : (edgL p ts fuel).length = ts.length := by simp [edgL]
theorem edgL_at {p : V.Prog} {ts : List (List Int)} {fuel : Int} {k : Nat} (h : (k : Int) < ts.length) : (edgL p ts fuel).getD k [] = asc (rawTo p (ts.getD k []) fuel.toNat) := by
  have h' : k < ts.length := by omega
  simp [edgL, List.getD_eq_getElem?_getD, h']
def suiOk (p : V.Prog) (ts : List (List Int)) (fuel : Int) : Bool := decide (ts.length ≤ 10) && (ts.all (fun x => inputsP p x) && inP fuel 0 400)
theorem suiOk_of {p : V.Prog} {ts : List (List Int)} {fuel : Int} (h : suiOk p ts fuel = true) : ts.length ≤ 10 ∧ ts.all (fun x => inputsP p x) = true ∧ inP fuel 0 400 = true := by simpa [suiOk] using h
end Vg

