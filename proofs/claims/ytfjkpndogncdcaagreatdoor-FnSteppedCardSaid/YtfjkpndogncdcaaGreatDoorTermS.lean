/- Terms are checked: contracts of the reference's functions. Condition: names are no longer than a law lets through. -/
import Derived.Test.YtfjkpndogncdcaaGreatDoorTermI
import Derived.Test.YtfjkpndogncdcaaGreatDoorRedQ
namespace Vg
open Go Go.Proofs
set_option maxRecDepth 100000
set_option maxHeartbeats 40000000
theorem qf2 (s : ByteArray) (k : Nat) : 0 <= xA s k /\ xA s k < 256 := by
  unfold xA
  have := UInt8.toNat_lt (s.data.toList.getD k 0)
  omega
theorem qg0 (s : ByteArray) (k : Nat) : IntKind.i64.wrap (xA s k) = xA s k := by
  have := qf2 s k
  exact j2 omG omG
theorem qb3 {s : ByteArray} {k : Nat} (h : jB s k = true) (hc : (97 <= xA s k /\ xA s k <= 122) \/ (48 <= xA s k /\ xA s k <= 57 /\ 0 < k)) : jB s (k + 1) = true := eV h hc
theorem qj4 {s : ByteArray} {k : Nat} (hk : k <= s.size /\ jB s k = true) (h : ¬ (k : Int) < s.size) : isNameP s = inP s.size 1 8 := by
  have e : k = s.size := by omega
  unfold isNameP
  rw [<- e, hk.2, Bool.and_true]
theorem qi2 (s : ByteArray) (hs : s.size <= 1048576) : CallsV Tryz.prog 168 [.dat (.str s)] (.dat (.bool (isNameP s))) := by
  refine oV Tryz.func168 ⟨?_⟩
  repeat' (first | ((with_reducible refine fun (K1 : KT) hK => ?_); refine o5 ⟨?_⟩) | ((with_reducible show K1 _ _); subst hK; conv => whnf) | (with_reducible exact rfl) | refine st0 ⟨?_⟩ | ((with_reducible refine SplS.mk (fun h => ?_) (fun h => ?_)) <;> first | exact s5 | (subst h; conv => whnf) | (conv => whnf)) | refine s1 ⟨?_⟩ ⟨?_⟩ | (refine l5 ({k : Nat // k <= s.size /\ jB s k = true}) (fun ⟨k, hk⟩ => j5 Tryz.f168.ntmps [(0, .dat (.str s)), (3, .dat (.i k))] []) (fun ⟨k, hk⟩ => s.size - k) ⟨0, ⟨Nat.zero_le _, rfl⟩⟩ (SubP.sub (σ := []) ⟨⟨rfl, rfl, rfl⟩, ⟨o0 ?_, o0 ?_, trivial⟩, trivial⟩) (fun ⟨k, hk⟩ => ?_); rotate_right; conv => whnf) | (refine p5 (⟨k + 1, ?_⟩ : {k : Nat // k <= s.size /\ jB s k = true}) ?_ (SubP.sub (σ := []) ⟨⟨rfl, rfl, rfl⟩, ⟨o0 ?_, o0 ?_, trivial⟩, trivial⟩)) | refine vP (tA ..) ⟨?_⟩ | fail)
  all_goals repeat clear hK K1
  all_goals first | (exact di_eq (rfl : ((0 : Nat) : Int) = 0)) | exact di_eq (by rw [j2 omG omG]; omega) | exact db_eq (qj4 hk asmR) | (have e : ((s.data.toList.getD (k : Int).toNat 0).toNat : Int) = xA s k := rfl; have eb := qf2 s k; simp only [e, qg0] at *; first | exact ⟨by omega, qb3 hk.2 (by simp only [inP, Bool.and_eq_true, Bool.and_eq_false_iff, decide_eq_true_eq, decide_eq_false_iff_not] at *; omega)⟩ | exact qb3 hk.2 (by simp only [inP, Bool.and_eq_true, Bool.and_eq_false_iff, decide_eq_true_eq, decide_eq_false_iff_not] at *; omega) | exact db_eq (qb5 omG (by simp only [inP, Bool.and_eq_true, Bool.and_eq_false_iff, decide_eq_true_eq, decide_eq_false_iff_not] at *; omega))) | omega | (dsimp only; omega) | skip
/-! ### few nodes -/
mutual
def fewT : V.Term -> Int -> Int
  | ⟨_, _, _, _, ks⟩, l => f8 ks (l - 1)
def f8 : List V.Term -> Int -> Int
  | [], l => l
  | k :: ks, l => if 0 <= l then f8 ks (fewT k l) else l
end
mutual
theorem uR : ∀ (t : V.Term) (l : Int), 0 <= l -> ((sizeT t : Int) <= l -> fewT t l = l - sizeT t) /\ (l < sizeT t -> fewT t l < 0) /\ -1 <= fewT t l /\ fewT t l <= l
  | ⟨_, _, _, _, ks⟩, l, h => by
    rw [fewT, sizeT]
    have := tR ks (l - 1) omG
    refine ⟨fun h1 => ?_, fun h1 => ?_, this.2.2.1, by omega⟩
    . rw [this.1 omG omG]; omega
    . by_cases h0 : 0 <= l - 1
      . exact this.2.1 h0 omG
      . have : f8 ks (l - 1) = l - 1 := by
          cases ks with
          | nil => rw [f8]
          | cons k ks => rw [f8, if_neg h0]
        omega
theorem tR : ∀ (ks : List V.Term) (l : Int), -1 <= l -> (0 <= l -> (a6 ks : Int) <= l -> f8 ks l = l - a6 ks) /\ (0 <= l -> l < a6 ks -> f8 ks l < 0) /\ -1 <= f8 ks l /\ f8 ks l <= l
  | [], l, h => by
    rw [f8, a6]
    refine ⟨fun _ _ => by omega, fun h1 h2 => by omega, h, Int.le_refl _⟩
  | k :: ks, l, h => by
    rw [f8, a6]
    by_cases h0 : 0 <= l
    . rw [if_pos h0]
      have h1 := uR k l h0
      have h2 := tR ks (fewT k l) h1.2.2.1
      refine ⟨fun _ h3 => ?_, fun _ h3 => ?_, h2.2.2.1, by omega⟩
      . have e := h1.1 omG
        rw [h2.1 omG omG, e]; omega
      . by_cases hs : (sizeT k : Int) <= l
        . have e := h1.1 hs
          exact h2.2.1 omG omG
        . have := h1.2.1 omG
          omega
    . rw [if_neg h0]
      exact ⟨fun h1 => absurd h1 h0, fun h1 => absurd h1 h0, h, Int.le_refl _⟩
end
theorem tW (t : V.Term) : decide (fewT t 240 >= 0) = decide (sizeT t <= 240) := by
  have := uR t 240 omG
  rw [decide_eq_decide]
  constructor
  . intro h
    by_cases hs : sizeT t <= 240
    . exact hs
    . have := this.2.1 omG; omega
  . intro h
    have := this.1 omG; omega
def u9 (ks : List V.Term) (l : Int) (i : Nat) : Int := f8 (ks.take i) l
theorem qer : ∀ (ks : List V.Term) (k : V.Term) (l : Int), 0 <= f8 ks l -> 0 <= l -> f8 (ks ++ [k]) l = fewT k (f8 ks l)
  | [], k, l, _, h0 => by simp only [List.nil_append, f8]; rw [if_pos h0]
  | x :: ks, k, l, h, h0 => by
    rw [List.cons_append, f8, if_pos h0]
    rw [f8, if_pos h0] at h
    have h1 : 0 <= fewT x l := by
      by_cases hx : 0 <= fewT x l
      . exact hx
      . have := (tR ks (fewT x l) (uR x l h0).2.2.1).2.2.2
        omega
    rw [qer ks k _ h h1]
    conv => rhs; rw [f8, if_pos h0]
theorem qeq : ∀ (a b : List V.Term) (l : Int), f8 a l < 0 -> f8 (a ++ b) l = f8 a l
  | [], b, l, h => by
    rw [f8] at h
    rw [List.nil_append]
    cases b with
    | nil => rfl
    | cons x b => simp only [f8]; rw [if_neg omG]
  | x :: a, b, l, h => by
    rw [List.cons_append, f8]
    rw [f8] at h
    conv => rhs; rw [f8]
    by_cases h0 : 0 <= l
    . rw [if_pos h0] at h
      rw [if_pos h0, if_pos h0, qeq a b _ h]
    . rw [if_neg h0, if_neg h0]
theorem fTo_0 (ks : List V.Term) (l : Int) : u9 ks l 0 = l := by simp [u9, f8]
theorem fTo_s {ks : List V.Term} {l : Int} {i : Nat} (hi : (i : Int) < ks.length) (h : u9 ks l i >= 0) (h0 : 0 <= l) : u9 ks l (i + 1) = fewT (kE ks i) (u9 ks l i) := by
  unfold u9 at *
  have hi' : i < ks.length := by omega
  rw [mD, List.take_add_one, List.getElem?_eq_getElem hi']
  have e : kAt ks i = ks[i] := by rw [kAt, List.getD_eq_getElem?_getD, List.getElem?_eq_getElem hi']; rfl
  rw [e]
  exact qer _ _ _ h h0
theorem fTo_e {ks : List V.Term} {l : Int} {i : Nat} (hi : ¬ (i : Int) < ks.length) : u9 ks l i = f8 ks l := by
  unfold u9
  rw [List.take_of_length_le omG]
theorem fTo_n {ks : List V.Term} {l : Int} {i : Nat} (h : ¬ u9 ks l i >= 0) : u9 ks l i = f8 ks l := by
  unfold u9 at *
  have := qeq (ks.take i) (ks.drop i) l omG
  rw [List.take_append_drop] at this
  exact this.symm
theorem qes (t : V.Term) (l : Int) : fewT t l = f8 t.kids (l - 1) := by cases t; rw [fewT]
structure FewI (t : V.Term) (l : Int) (i : Nat) : Prop where
  le : i <= t.kids.length
  bd : -1 <= u9 t.kids (l - 1) i /\ u9 t.kids (l - 1) i <= 240
theorem fewI_0 {t : V.Term} {l : Int} (h : 0 <= l /\ l <= 240) : FewI t l 0 := ⟨Nat.zero_le _, by rw [fTo_0]; omega⟩
theorem fewI_l {t : V.Term} {l : Int} {i : Nat} (hl : 0 <= l /\ l <= 240) (_h : FewI t l i) (h0 : u9 t.kids (l - 1) i >= 0) : 0 <= l - 1 := by
  by_cases hx : 0 <= l - 1
  . exact hx
  . have := (tR (t.kids.take i) (l - 1) omG).2.2.2
    unfold u9 at h0
    omega
theorem qet {t : V.Term} {l : Int} {i : Nat} (hl : 0 <= l /\ l <= 240) (h : FewI t l i) (hi : (i : Int) < t.kids.length) (h0 : u9 t.kids (l - 1) i >= 0) : FewI t l (i + 1) /\ u9 t.kids (l - 1) (i + 1) = fewT (kE t.kids i) (u9 t.kids (l - 1) i) := by
  have e := fTo_s hi h0 (fewI_l hl h h0)
  have := (uR (kE t.kids i) (u9 t.kids (l - 1) i) h0).2.2
  have hb := h.bd
  exact ⟨⟨by omega, by rw [e]; omega⟩, e⟩
theorem few_e {t : V.Term} {l : Int} {i : Nat} (h : ¬ (i : Int) < t.kids.length) : u9 t.kids (l - 1) i = fewT t l := by rw [fTo_e h, qes]
theorem few_n {t : V.Term} {l : Int} {i : Nat} (h : ¬ u9 t.kids (l - 1) i >= 0) : u9 t.kids (l - 1) i = fewT t l := by rw [fTo_n h, qes]
structure IHFew (t : V.Term) : Prop where
  call : ∀ (op w n : Int) (nm : ByteArray) (ks : List V.Term) (l : Int), 0 <= l /\ l <= 240 -> sizeT ⟨op, w, n, nm, ks⟩ < sizeT t ->
    CallsG Tryz.prog 131 [.agg [.dat (.i op), .dat (.i w), .dat (.i n), .dat (.str nm), .dat (.seq .terms ks)], .ptr 0 0] [.box [.dat (.i l)]] 1
      (fun res B => res = .dat (.bool (decide (fewT ⟨op, w, n, nm, ks⟩ l >= 0))) /\ B = [.box [.dat (.i (fewT ⟨op, w, n, nm, ks⟩ l))]])
theorem ih_few {t : V.Term} (ih : IHFew t) {op w n : Int} {nm : ByteArray} {ks : List V.Term} {l : Int} (hl : 0 <= l /\ l <= 240) (hs : sizeT ⟨op, w, n, nm, ks⟩ < sizeT t) :
    CallsG Tryz.prog 131 [.agg [.dat (.i op), .dat (.i w), .dat (.i n), .dat (.str nm), .dat (.seq .terms ks)], .ptr 0 0] [.box [.dat (.i l)]] 1
      (fun res B => res = .dat (.bool (decide (fewT ⟨op, w, n, nm, ks⟩ l >= 0))) /\ B = [.box [.dat (.i (fewT ⟨op, w, n, nm, ks⟩ l))]]) := ih.call op w n nm ks l hl hs
theorem qf3 {l l' : Int} (h : l = l') : [Blk.box [.dat (.int .i64 l)]] = [Blk.box [.dat (.i l')]] := by rw [h]
theorem c_few0 (t : V.Term) (l : Int) (ih : IHFew t) (hl : 0 <= l /\ l <= 240) : CallsG Tryz.prog 131 [.agg [.dat (.i t.op), .dat (.i t.w), .dat (.i t.n), .dat (.str t.name), .dat (.seq .terms t.kids)], .ptr 0 0] [.box [.dat (.i l)]] 1 (fun res B => res = .dat (.bool (decide (fewT t l >= 0))) /\ B = [.box [.dat (.i (fewT t l))]]) := by
  refine oG Tryz.func131 ⟨?_⟩
  repeat' (first | ((with_reducible refine fun (K1 : KT) hK => ?_); refine o5 ⟨?_⟩) | ((with_reducible show K1 _ _); subst hK; conv => whnf) | (with_reducible exact rfl) | refine st0 ⟨?_⟩ | ((with_reducible refine SplS.mk (fun h => ?_) (fun h => ?_)) <;> first | exact m4 | (subst h; conv => whnf) | (conv => whnf)) | refine s1 ⟨?_⟩ ⟨?_⟩ | (refine l5 ({i : Nat // FewI t l i}) (fun ⟨i, hi⟩ => j5 Tryz.f131.ntmps [(1, .ptr 900000 0), (2, .ptr 2 0), (5, .dat (.i i))] [(900000, .box [.dat (.i (u9 t.kids (l - 1) i))]), (2, .box [.dat (.i t.op), .dat (.i t.w), .dat (.i t.n), .dat (.str t.name), .dat (.seq .terms t.kids)])]) (fun ⟨i, hi⟩ => t.kids.length - i) ⟨0, fewI_0 hl⟩ (SubP.sub (σ := [(900000, some 900000), (2, some 2)]) ⟨⟨rfl, rfl, rfl⟩, ⟨rr, rr, o0 ?_, trivial⟩, ⟨⟨j0 ?_, trivial⟩, ⟨j0 ?_, j0 ?_, j0 ?_, j0 ?_, j0 ?_, trivial⟩, trivial⟩⟩) (fun ⟨i, hi⟩ => ?_); rotate_right; conv => whnf) | (refine p5 (⟨i + 1, ?_⟩ : {i : Nat // FewI t l i}) ?_ (SubP.sub (σ := [(900000, some 900000), (2, some 2)]) ⟨⟨rfl, rfl, rfl⟩, ⟨rr, rr, o0 ?_, trivial⟩, ⟨⟨j0 ?_, trivial⟩, ⟨j0 ?_, j0 ?_, j0 ?_, j0 ?_, j0 ?_, trivial⟩, trivial⟩⟩)) | refine gS (ih_few (ih := by assumption) (hl := ?_) (hs := ?_) ..) ⟨?_⟩ | (intro h; conv => whnf))
  all_goals repeat clear hK K1
  all_goals first | exact di_eq (rfl : ((0 : Nat) : Int) = 0) | exact di_eq (by rw [fTo_0, j2 omG omG]) | exact (qet hl hi asmR asmR).1 | exact di_eq (qet hl hi asmR asmR).2 | (have hm : maxLen = 9223372036854775807 := rfl; refine di_eq ?_; rw [j2 omG omG]; omega) | exact hi.bd.2 | (rw [V.Term.eta]; exact jH asmR) | (have e := few_e (l := l) (show ¬ (i : Int) < t.kids.length by with_reducible assumption); first | exact qf3 e | (refine gM ?_; rw [e])) | (have e := few_n (show ¬ u9 t.kids (l - 1) i >= 0 by with_reducible assumption); first | exact qf3 e | (refine gM ?_; rw [e])) | omega | (dsimp only; omega) | skip
def vC : List V.Val -> ByteArray -> Option Int
  | [], _ => none
  | v :: l, s => if v.name = s then some v.w else vC l s
def dA : List V.Val -> ByteArray -> Int -> List V.Val × Bool
  | [], s, w => ([⟨s, w, 0⟩], true)
  | v :: l, s, w => if i6 v.name s = true then (v :: (dA l s w).1, (dA l s w).2) else if v.name = s then (v :: l, decide (v.w = w)) else (⟨s, w, 0⟩ :: v :: l, true)
abbrev SortV (l : List V.Val) : Prop := l.Pairwise fun a b => i6 a.name b.name = true
theorem qcl : ∀ {l : List V.Val} {s : ByteArray}, (∀ x ∈ l, i6 s x.name = true) -> vC l s = none
  | [], _, _ => rfl
  | v :: l, s, h => by
    rw [vC, if_neg (fun e => by
      have := h v List.mem_cons_self
      rw [e, pK] at this
      cases this)]
    exact qcl fun x hx => h x (List.mem_cons_of_mem _ hx)
theorem qde : ∀ {l : List V.Val} {s : ByteArray} {w : Int} {x : V.Val}, x ∈ (dA l s w).1 -> x ∈ l \/ x.name = s
  | [], s, w, x, h => by
    rw [dA] at h
    obtain rfl := List.mem_singleton.1 h
    exact .inr rfl
  | v :: l, s, w, x, h => by
    rw [dA] at h
    split at h
    . rcases List.mem_cons.1 h with rfl | h
      . exact .inl List.mem_cons_self
      . rcases qde h with h | h
        . exact .inl (List.mem_cons_of_mem _ h)
        . exact .inr h
    . split at h
      . exact .inl h
      . rcases List.mem_cons.1 h with rfl | h
        . exact .inr rfl
        . exact .inl h
theorem qdg : ∀ {l : List V.Val} {s : ByteArray} {w x : Int}, SortV l -> vC l s = some x -> dA l s w = (l, decide (x = w))
  | [], _, _, _, _, h => by cases h
  | v :: l, s, w, x, hs, h => by
    rw [vC] at h
    rw [dA]
    by_cases e : v.name = s
    . rw [if_pos e] at h
      cases h
      rw [if_neg (by rw [e, pK]; decide), if_pos e]
    . rw [if_neg e] at h
      have hv : i6 v.name s = true := by
        by_cases hv : i6 v.name s = true
        . exact hv
        . have h1 := oK e (by simpa using hv)
          have := qcl (l := l) (s := s) fun y hy => rM h1 ((List.pairwise_cons.1 hs).1 y hy)
          rw [this] at h
          cases h
      rw [if_pos hv, qdg (List.pairwise_cons.1 hs).2 h]
theorem qdd : ∀ {l : List V.Val} {s : ByteArray} {w : Int}, SortV l -> vC l s = none -> (dA l s w).2 = true /\ SortV (dA l s w).1 /\ ∀ s', vC (dA l s w).1 s' = if s = s' then some w else vC l s'
  | [], s, w, _, _ => ⟨rfl, List.pairwise_singleton _ _, fun s' => by rw [dA]; rfl⟩
  | v :: l, s, w, hs, h => by
    rw [vC] at h
    by_cases e : v.name = s
    . rw [if_pos e] at h; cases h
    rw [if_neg e] at h
    rw [dA]
    have hs' := List.pairwise_cons.1 hs
    by_cases hv : i6 v.name s = true
    . rw [if_pos hv]
      obtain ⟨i1, i2, i3⟩ := qdd (w := w) hs'.2 h
      refine ⟨i1, List.pairwise_cons.2 ⟨fun x hx => ?_, i2⟩, fun s' => ?_⟩
      . rcases qde hx with hx | hx
        . exact hs'.1 x hx
        . rw [hx]; exact hv
      . rw [vC, i3, vC]
        by_cases e2 : v.name = s'
        . rw [if_pos e2, if_neg (fun e3 => e (e2.trans e3.symm)), if_pos e2]
        . rw [if_neg e2, if_neg e2]
    . rw [if_neg hv, if_neg e]
      have h1 := oK e (by simpa using hv)
      refine ⟨rfl, List.pairwise_cons.2 ⟨fun x hx => ?_, hs⟩, fun s' => ?_⟩
      . rcases List.mem_cons.1 hx with rfl | hx
        . exact h1
        . exact rM h1 (hs'.1 x hx)
      . rw [vC]
theorem fN {m : List (ByteArray × Int)} {s s' : ByteArray} {w : Int} (h : mget m s = none) : mget (z8 m s w) s' = if s = s' then some w else mget m s' := by
  have hf : mfind s m 0 = none := by
    unfold mget at h
    cases e : mfind s m 0 with
    | none => rfl
    | some x => rw [e] at h; cases h
  have hm : z8 m s w = m ++ [(s, w)] := by unfold z8; rw [hf]
  rw [hm]
  have ga : ∀ (m : List (ByteArray × Int)) (i j : Nat), (mfind s m j = none) -> (mfind s' (m ++ [(s, w)]) i).map (·.2) = if s = s' then some w else (mfind s' m i).map (·.2) := by
    intro m
    induction m with
    | nil =>
      intro i j _
      show (mfind s' [(s, w)] i).map (·.2) = _
      rw [mfind, mfind, mfind]
      split <;> rfl
    | cons a m ih =>
      intro i j h
      obtain ⟨k, n⟩ := a
      rw [mfind] at h
      split at h
      . cases h
      . rename_i hk
        rw [List.cons_append, mfind, mfind]
        by_cases e : k = s'
        . rw [if_pos e, if_neg (fun e2 => hk (e.trans e2.symm)), if_pos e]
        . rw [if_neg e, if_neg e]
          exact ih _ _ h
  exact ga m 0 0 hf
mutual
def varL : V.Term -> List V.Val -> List V.Val × Bool
  | ⟨op, w, _, nm, ks⟩, l => if op = 22 then dA l nm w else x8 ks l
def x8 : List V.Term -> List V.Val -> List V.Val × Bool
  | [], l => (l, true)
  | t :: ts, l => if (varL t l).2 = true then x8 ts (varL t l).1 else ([], false)
end
structure RepV (l : List V.Val) (m : List (ByteArray × Int)) : Prop where
  srt : SortV l
  look : ∀ s, mget m s = vC l s
theorem repV_0 : RepV [] [] := ⟨List.Pairwise.nil, fun _ => rfl⟩
structure VarR (vs : List (ByteArray × Int)) (m : List (ByteArray × Int)) (r : List V.Val × Bool) : Prop where
  yes : r.2 = true -> ∃ m', fA m vs = some m' /\ RepV r.1 m'
  no : r.2 = false -> fA m vs = none
theorem qjy {op w n : Int} {nm : ByteArray} {ks : List V.Term} (h : okT ⟨op, w, n, nm, ks⟩ = true) (ho : op = 22) : ks = [] := by
  rw [okT] at h
  simp only [Bool.and_eq_true] at h
  have := (uC.1 h.1.1).len
  rw [ho] at this
  have e : mA 22 = 0 := rfl
  rw [e] at this
  exact List.length_eq_zero_iff.1 omG
theorem insR_r {l : List V.Val} {m : List (ByteArray × Int)} {s : ByteArray} {w : Int} (h : RepV l m) : VarR [(s, w)] m (dA l s w) := by
  cases e : vC l s with
  | none =>
    obtain ⟨i1, i2, i3⟩ := qdd (w := w) h.srt e
    have hm : mget m s = none := by rw [h.look, e]
    refine ⟨fun _ => ⟨z8 m s w, by simp only [fA, hm], i2, fun s' => ?_⟩, fun h2 => by rw [i1] at h2; cases h2⟩
    rw [fN hm, i3, h.look]
  | some x =>
    have hm : mget m s = some x := by rw [h.look, e]
    rw [qdg h.srt e]
    refine ⟨fun h2 => ⟨m, ?_, h⟩, fun h2 => ?_⟩
    . simp only [fA, hm]
      rw [if_pos (of_decide_eq_true h2)]
    . simp only [fA, hm]
      rw [if_neg (of_decide_eq_false h2)]
mutual
theorem eZ : ∀ (t : V.Term) {l : List V.Val} {m : List (ByteArray × Int)}, okT t = true -> RepV l m -> VarR (varsT t) m (varL t l)
  | ⟨op, w, n, nm, ks⟩, l, m, ht, h => by
    rw [varL, varsT]
    by_cases ho : op = 22
    . have hk := qjy ht ho
      subst hk
      rw [if_pos ho, if_pos ho, i7]
      exact insR_r h
    . rw [if_neg ho, if_neg ho]
      rw [okT] at ht
      simp only [Bool.and_eq_true] at ht
      exact dZ ks ht.2 h
theorem dZ : ∀ (ks : List V.Term) {l : List V.Val} {m : List (ByteArray × Int)}, okTs ks = true -> RepV l m -> VarR (i7 ks) m (x8 ks l)
  | [], l, m, _, h => by
    rw [x8, i7]
    exact ⟨fun _ => ⟨m, rfl, h⟩, fun h => by cases h⟩
  | t :: ts, l, m, ht, h => by
    rw [okTs, Bool.and_eq_true] at ht
    have h1 := eZ t ht.1 h
    rw [x8, i7]
    by_cases hv : (varL t l).2 = true
    . rw [if_pos hv]
      obtain ⟨m', e1, r1⟩ := h1.yes hv
      have h2 := dZ ts ht.2 r1
      refine ⟨fun h3 => ?_, fun h3 => ?_⟩
      . obtain ⟨m2, e2, r2⟩ := h2.yes h3
        exact ⟨m2, by rw [gI, e1]; exact e2, r2⟩
      . rw [gI, e1]; exact h2.no h3
    . rw [if_neg hv]
      refine ⟨fun h3 => (by cases h3), fun _ => ?_⟩
      rw [gI, h1.no (by simpa using hv)]
      rfl
end
theorem qg4 {t : V.Term} (h : okT t = true) : (varL t []).2 = (fA [] (varsT t)).isSome := by
  have := eZ t h repV_0
  cases e : (varL t []).2 with
  | true => obtain ⟨m, e1, _⟩ := this.yes e; rw [e1]; rfl
  | false => rw [this.no e]; rfl
/-! ### how the place is found, and kid by kid -/
theorem zQ : ∀ {l : List V.Val} {s : ByteArray} {w : Int} {k : Nat}, k <= l.length -> (l.take k).all (fun v => i6 v.name s) = true -> (∀ x, l[k]? = some x -> i6 x.name s = false) ->
    dA l s w = match l[k]? with
      | some x => if x.name = s then (l, decide (x.w = w)) else (l.take k ++ ⟨s, w, 0⟩ :: l.drop k, true)
      | none => (l.take k ++ ⟨s, w, 0⟩ :: l.drop k, true)
  | [], s, w, k, h, _, _ => by
    obtain rfl : k = 0 := by simpa using h
    rfl
  | v :: l, s, w, 0, _, _, h => by
    have h0 := h v rfl
    rw [dA, if_neg (by rw [h0]; decide)]
    rfl
  | v :: l, s, w, k + 1, hk, ha, h => by
    rw [List.take_succ_cons, List.all_cons, Bool.and_eq_true] at ha
    rw [dA, if_pos ha.1, zQ (k := k) (by simpa using hk) ha.2 (by simpa using h)]
    simp only [List.getElem?_cons_succ, List.take_succ_cons, List.drop_succ_cons]
    split
    . split <;> rfl
    . rfl
theorem ins_end {l : List V.Val} {s : ByteArray} {w : Int} {k : Nat} (hk : k <= l.length /\ (l.take k).all (fun v => i6 v.name s) = true) (h : ¬ (k : Int) < l.length) : dA l s w = (l.take k ++ ⟨s, w, 0⟩ :: l.drop k, true) := by
  have hn : l[k]? = none := List.getElem?_eq_none omG
  rw [zQ hk.1 hk.2 (by rw [hn]; intro x hx; cases hx), hn]
theorem qko {l : List V.Val} {s : ByteArray} {w : Int} {k : Nat} (hk : k <= l.length /\ (l.take k).all (fun v => i6 v.name s) = true) (h : (k : Int) < l.length) (hl : i6 (l.getD k K.vals.dflt).name s = false) (he : (l.getD k K.vals.dflt).name = s) : dA l s w = (l, decide ((l.getD k K.vals.dflt).w = w)) := by
  have hn : l[k]? = some (l.getD k K.vals.dflt) := by
    rw [List.getD_eq_getElem?_getD, List.getElem?_eq_getElem omG]; rfl
  rw [zQ hk.1 hk.2 (by rw [hn]; intro x hx; cases hx; exact hl), hn]
  show (if _ then _ else _) = _
  rw [if_pos he]
theorem ins_mid {l : List V.Val} {s : ByteArray} {w : Int} {k : Nat} (hk : k <= l.length /\ (l.take k).all (fun v => i6 v.name s) = true) (h : (k : Int) < l.length) (hl : i6 (l.getD k K.vals.dflt).name s = false) (he : ¬ (l.getD k K.vals.dflt).name = s) : dA l s w = (l.take k ++ ⟨s, w, 0⟩ :: l.drop k, true) := by
  have hn : l[k]? = some (l.getD k K.vals.dflt) := by
    rw [List.getD_eq_getElem?_getD, List.getElem?_eq_getElem omG]; rfl
  rw [zQ hk.1 hk.2 (by rw [hn]; intro x hx; cases hx; exact hl), hn]
  show (if _ then _ else _) = _
  rw [if_neg he]
theorem ins_s {l : List V.Val} {s : ByteArray} {k : Nat} (hk : k <= l.length /\ (l.take k).all (fun v => i6 v.name s) = true) (h : (k : Int) < l.length) (hl : i6 (l.getD k K.vals.dflt).name s = true) : k + 1 <= l.length /\ (l.take (k + 1)).all (fun v => i6 v.name s) = true := by
  refine ⟨by omega, ?_⟩
  rw [dH K.vals.dflt h, hk.2, hl]; rfl
noncomputable def w9 (ks : List V.Term) (l : List V.Val) (i : Nat) : List V.Val × Bool := x8 (ks.take i) l
theorem cZ : ∀ (ks : List V.Term) (k : V.Term) (l : List V.Val), (x8 ks l).2 = true -> x8 (ks ++ [k]) l = if (varL k (x8 ks l).1).2 = true then varL k (x8 ks l).1 else ([], false)
  | [], k, l, _ => by
    rw [List.nil_append, x8, x8]
    simp only [x8]
    split
    . rename_i h; exact Prod.ext rfl h.symm
    . rfl
  | x :: ks, k, l, h => by
    rw [List.cons_append, x8]
    rw [x8] at h
    by_cases hx : (varL x l).2 = true
    . rw [if_pos hx] at h ⊢
      rw [cZ ks k _ h]
      conv => rhs; rw [x8, if_pos hx]
    . rw [if_neg hx] at h; cases h
theorem bZ : ∀ (a b : List V.Term) (l : List V.Val), (x8 a l).2 = false -> x8 (a ++ b) l = ([], false)
  | [], b, l, h => by rw [x8] at h; cases h
  | x :: a, b, l, h => by
    rw [List.cons_append, x8]
    rw [x8] at h
    by_cases hx : (varL x l).2 = true
    . rw [if_pos hx] at h
      rw [if_pos hx, bZ a b _ h]
    . rw [if_neg hx]
theorem vTo_0 (ks : List V.Term) (l : List V.Val) : w9 ks l 0 = (l, true) := by simp [w9, x8]
theorem vTo_s {ks : List V.Term} {l : List V.Val} {i : Nat} (hi : i < ks.length) (h : (w9 ks l i).2 = true) : w9 ks l (i + 1) = if (varL (kAt ks i) (w9 ks l i).1).2 = true then varL (kAt ks i) (w9 ks l i).1 else ([], false) := by
  unfold w9 at *
  rw [List.take_add_one, List.getElem?_eq_getElem hi]
  have e : kAt ks i = ks[i] := by rw [kAt, List.getD_eq_getElem?_getD, List.getElem?_eq_getElem hi]; rfl
  rw [e]
  exact cZ _ _ _ h
theorem vTo_e {ks : List V.Term} {l : List V.Val} {i : Nat} (hi : ¬ (i : Int) < ks.length) : w9 ks l i = x8 ks l := by
  unfold w9
  rw [List.take_of_length_le omG]
theorem vTo_n {ks : List V.Term} {l : List V.Val} {i : Nat} (h : (w9 ks l i).2 = false) : x8 ks l = ([], false) := by
  unfold w9 at *
  have := bZ (ks.take i) (ks.drop i) l h
  rwa [List.take_append_drop] at this
theorem bT {t : V.Term} {l : List V.Val} (h : t.op = 22) : varL t l = dA l t.name t.w := by cases t; rw [varL]; exact if_pos h
theorem fZ {t : V.Term} {l : List V.Val} (h : ¬ t.op = 22) : varL t l = x8 t.kids l := by cases t; rw [varL]; exact if_neg h
theorem qdf : ∀ (l : List V.Val) (s : ByteArray) (w : Int), (dA l s w).1.length <= l.length + 1
  | [], s, w => Nat.le_refl _
  | v :: l, s, w => by
    rw [dA]
    split
    . have := qdf l s w
      simp only [List.length_cons]
      omega
    . split <;> simp only [List.length_cons] <;> omega
mutual
theorem qg5 : ∀ (t : V.Term) (l : List V.Val), (varL t l).1.length <= l.length + sizeT t
  | ⟨op, w, n, nm, ks⟩, l => by
    rw [varL, sizeT]
    split
    . have := qdf l nm w
      omega
    . have := aT ks l
      omega
theorem aT : ∀ (ks : List V.Term) (l : List V.Val), (x8 ks l).1.length <= l.length + a6 ks
  | [], l => by rw [x8]; exact Nat.le_add_right _ _
  | t :: ts, l => by
    rw [x8, a6]
    have h1 := qg5 t l
    split
    . have h2 := aT ts (varL t l).1
      omega
    . exact Nat.zero_le _
end
theorem qai : ∀ (ks : List V.Term) (i : Nat), i < ks.length -> a6 (ks.take i) + sizeT (kAt ks i) <= a6 ks
  | [], _, h => absurd h (Nat.not_lt_zero _)
  | t :: ts, 0, _ => by
    show a6 [] + sizeT t <= _
    rw [a6, a6]; omega
  | t :: ts, i + 1, h => by
    have := qai ts i (by simpa using h)
    show a6 (t :: ts.take i) + sizeT (kAt ts i) <= _
    rw [a6, a6]; omega
structure VarI (t : V.Term) (l : List V.Val) (i : Nat) : Prop where
  le : i <= t.kids.length
  so : (w9 t.kids l i).2 = true
  no : ¬ t.op = 22
theorem varI_0 {t : V.Term} {l : List V.Val} (h : ¬ t.op = 22) : VarI t l 0 := ⟨Nat.zero_le _, by rw [vTo_0], h⟩
theorem gZ {t : V.Term} {l : List V.Val} {i : Nat} (h : VarI t l i) (hi : (i : Int) < t.kids.length) (hy : (varL (kE t.kids i) (w9 t.kids l i).1).2 = true) : VarI t l (i + 1) /\ w9 t.kids l (i + 1) = varL (kE t.kids i) (w9 t.kids l i).1 := by
  rw [mD] at hy ⊢
  have e : w9 t.kids l (i + 1) = varL (kAt t.kids i) (w9 t.kids l i).1 := by rw [vTo_s omG h.so, if_pos hy]
  exact ⟨⟨by omega, by rw [e]; exact hy, h.no⟩, e⟩
theorem varI_n {t : V.Term} {l : List V.Val} {i : Nat} (h : VarI t l i) (hi : (i : Int) < t.kids.length) (hy : (varL (kE t.kids i) (w9 t.kids l i).1).2 = false) : varL t l = ([], false) := by
  rw [mD] at hy
  rw [fZ h.no]
  have e : w9 t.kids l (i + 1) = ([], false) := by rw [vTo_s omG h.so, if_neg (by rw [hy]; decide)]
  exact vTo_n (i := i + 1) (by rw [e])
theorem varI_e {t : V.Term} {l : List V.Val} {i : Nat} (h : VarI t l i) (hi : ¬ (i : Int) < t.kids.length) : varL t l = ((w9 t.kids l i).1, true) := by
  rw [fZ h.no, <- vTo_e hi]
  exact Prod.ext rfl h.so
theorem varI_l {t : V.Term} {l : List V.Val} {i : Nat} (_h : VarI t l i) (hi : (i : Int) < t.kids.length) (hl : l.length + sizeT t <= 1048576) : (w9 t.kids l i).1.length + sizeT (kE t.kids i) <= 1048576 := by
  rw [mD]
  have h1 := aT (t.kids.take i) l
  have h2 := qai t.kids i omG
  have h3 := uI t
  unfold w9
  omega
end Vg
