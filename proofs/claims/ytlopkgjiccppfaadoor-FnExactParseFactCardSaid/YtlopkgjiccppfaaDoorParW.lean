/- Words: contract of the reference's function that cuts a text into words. Condition: texts are no longer than the law lets through. -/
import Derived.Test.YtlopkgjiccppfaaDoorParS
namespace Vg
open Go Go.Proofs
def gapB (s : ByteArray) (i : Nat) : Bool := decide (i = s.size ∨ bAt s i = 32)
/-- where the word began, and the words so far, ahead of place k -/
def wTo (s : ByteArray) : Nat → Int × List ByteArray
  | 0 => (-1, [])
  | k + 1 => (if gapB s k = true then -1 else if (wTo s k).1 < 0 then k else (wTo s k).1, if gapB s k = true ∧ 0 ≤ (wTo s k).1 then (wTo s k).2 ++ [s.extract (wTo s k).1.toNat k] else (wTo s k).2)
theorem wTo_len (s : ByteArray) : ∀ k, (wTo s k).2.length ≤ k
  | 0 => Nat.le_refl _
  | k + 1 => by
    have := wTo_len s k
    simp only [wTo]
    split <;> simp <;> omega
theorem wTo_lt (s : ByteArray) : ∀ k, -1 ≤ (wTo s k).1 ∧ (wTo s k).1 < k
  | 0 => by simp [wTo]
  | k + 1 => by
    have := wTo_lt s k
    simp only [wTo]
    split
    · omega
    · split <;> omega
def wordsP (s : ByteArray) : List ByteArray := ((splitL 32 s.data.toList).filter (fun x => !x.isEmpty)).map mkB
theorem snoc_take {α : Type} {l : List α} {i : Nat} (h : i < l.length) : l.take (i + 1) = l.take i ++ [l[i]] := by
  rw [List.take_add_one, List.getElem?_eq_getElem h]; rfl
structure WordI (s : ByteArray) (i : Nat) : Prop where
  ex : ∃ d t, splitL 32 ((s.data.toList ++ [32]).take i) = d ++ [t] ∧ (wTo s i).2 = (d.filter (fun x => !x.isEmpty)).map mkB ∧ (((wTo s i).1 = -1 ∧ t = []) ∨ (0 ≤ (wTo s i).1 ∧ (wTo s i).1 < i ∧ t = ((s.data.toList ++ [32]).take i).drop (wTo s i).1.toNat))
theorem gap_at {s : ByteArray} {i : Nat} (h : i < (s.data.toList ++ [32]).length) : gapB s i = decide ((s.data.toList ++ [32])[i] = 32) := by
  have hs : s.data.toList.length = s.size := rfl
  unfold gapB bAt
  by_cases e : i < s.size
  · rw [List.getElem_append_left (by omega), List.getD_eq_getElem?_getD, List.getElem?_eq_getElem (by omega), Option.getD_some]
    generalize s.data.toList[i] = b
    have : (b = 32) ↔ ((b.toNat : Int) = 32) := by
      constructor
      · intro h; subst h; rfl
      · intro h; apply UInt8.toNat_inj.1; have e2 : (32 : UInt8).toNat = 32 := rfl; omega
    rw [decide_eq_decide, this]
    constructor
    · rintro (h | h)
      · omega
      · exact h
    · exact .inr
  · have : i = s.size := by simp at h; omega
    subst this
    rw [List.getElem_append_right (by omega)]
    simp
theorem wordI (s : ByteArray) : ∀ i, i ≤ s.size + 1 → WordI s i
  | 0, _ => ⟨[], [], by simp [splitL, wTo]⟩
  | i + 1, h => by
    obtain ⟨d, t, e1, e2, e3⟩ := (wordI s i (by omega)).ex
    have hs : s.data.toList.length = s.size := rfl
    have hi : i < (s.data.toList ++ [32]).length := by simp; omega
    have hb := wTo_lt s i
    have hsn := splitL_snoc (s.data.toList ++ [32])[i] e1
    have hg := gap_at hi
    refine ⟨?_⟩
    rw [snoc_take hi, hsn]
    simp only [wTo]
    by_cases hc : (s.data.toList ++ [32])[i] = 32
    · rw [hc]
      have hgt : gapB s i = true := by rw [hg]; exact decide_eq_true hc
      rw [if_pos rfl, if_pos hgt]
      refine ⟨d ++ [t], [], by simp, ?_, .inl ⟨rfl, rfl⟩⟩
      rcases e3 with ⟨h1, h2⟩ | ⟨h1, h2, h3⟩
      · rw [if_neg (by omega), e2, h2]; simp
      · rw [if_pos ⟨hgt, h1⟩, e2]
        have hx : s.extract (wTo s i).1.toNat i = mkB t := by
          apply ByteArray.ext
          apply Array.ext'
          rw [Lib.extract_data, h3]
          simp only [mkB]
          rw [List.take_append_of_le_length (by omega), List.drop_take]
        have hne : (!t.isEmpty) = true := by
          have : t.length = i - (wTo s i).1.toNat := by rw [h3]; simp; omega
          cases t with
          | nil => simp at this; omega
          | cons a b => rfl
        rw [hx, List.filter_append, List.map_append]
        simp [hne]
    · have hgf : gapB s i = false := by rw [hg]; exact decide_eq_false hc
      have hgn : ¬ gapB s i = true := by rw [hgf]; decide
      rw [if_neg hc, if_neg hgn, if_neg (fun k => hgn k.1)]
      refine ⟨d, _, rfl, e2, .inr ?_⟩
      rcases e3 with ⟨h1, h2⟩ | ⟨h1, h2, h3⟩
      · rw [if_pos (by omega), h2]
        refine ⟨by omega, by omega, ?_⟩
        rw [Int.toNat_natCast, List.drop_left' (by rw [List.length_take, List.length_append, List.length_singleton]; omega)]; rfl
      · rw [if_neg (by omega)]
        refine ⟨h1, by omega, ?_⟩
        rw [List.drop_append_of_le_length (by simp; omega), ← h3]
theorem words_end (s : ByteArray) : (wTo s (s.size + 1)).2 = wordsP s := by
  obtain ⟨d, t, e1, e2, e3⟩ := (wordI s (s.size + 1) (Nat.le_refl _)).ex
  have hs : s.data.toList.length = s.size := rfl
  rw [List.take_of_length_le (by simp)] at e1
  obtain ⟨d', t', e⟩ : ∃ d' t', splitL 32 s.data.toList = d' ++ [t'] := ⟨_, _, (List.dropLast_concat_getLast (splitL_ne 32 _)).symm⟩
  have h2 := splitL_snoc 32 e
  rw [if_pos rfl, e1] at h2
  have h3 : d ++ [t] = (d' ++ [t']) ++ [[]] := by rw [h2]; simp
  obtain ⟨e4, e5⟩ := List.append_inj' h3 rfl
  rw [e2, e4, wordsP, e]
theorem words_len (s : ByteArray) : (wordsP s).length ≤ s.size + 1 := by rw [← words_end]; exact wTo_len s _
theorem gap_0 {s : ByteArray} {k : Nat} (h : (k : Int) = s.size) : gapB s k = true := decide_eq_true (.inl (by omega))
theorem gap_1 {s : ByteArray} {k : Nat} (h : ((s.data.toList.getD (k : Int).toNat 0).toNat : Int) = 32) : gapB s k = true := decide_eq_true (.inr (by rw [Int.toNat_natCast] at h; exact h))
theorem gap_2 {s : ByteArray} {k : Nat} (h0 : ¬ (k : Int) = s.size) (h : ¬ ((s.data.toList.getD (k : Int).toNat 0).toNat : Int) = 32) : gapB s k = false := decide_eq_false (fun e => by
  rcases e with e | e
  · exact h0 (by omega)
  · rw [Int.toNat_natCast] at h; exact h e)
section
variable {s : ByteArray} {k : Nat}
theorem w_y (g : gapB s k = true) (h : (wTo s k).1 ≥ 0) : wTo s (k + 1) = (-1, (wTo s k).2 ++ [s.extract (wTo s k).1.toNat k]) := by simp only [wTo]; rw [if_pos g, if_pos ⟨g, h⟩]
theorem w_n (g : gapB s k = true) (h : ¬ (wTo s k).1 ≥ 0) : wTo s (k + 1) = ((wTo s k).1, (wTo s k).2) := by
  simp only [wTo]
  have := wTo_lt s k
  rw [if_pos g, if_neg (fun e => h e.2), show (wTo s k).1 = -1 from by omega]
theorem w_a (g : gapB s k = false) (h : (wTo s k).1 < 0) : wTo s (k + 1) = ((k : Int), (wTo s k).2) := by
  simp only [wTo]
  have g' : ¬ gapB s k = true := by rw [g]; decide
  rw [if_neg g', if_pos h, if_neg (fun e => g' e.1)]
theorem w_b (g : gapB s k = false) (h : ¬ (wTo s k).1 < 0) : wTo s (k + 1) = ((wTo s k).1, (wTo s k).2) := by
  simp only [wTo]
  have g' : ¬ gapB s k = true := by rw [g]; decide
  rw [if_neg g', if_neg h, if_neg (fun e => g' e.1)]
end
theorem beq_t {a b : Int} (h : (a == b) = true) : a = b := beq_iff_eq.1 h
theorem beq_f {a b : Int} (h : (a == b) = false) : ¬ a = b := fun e => by subst e; simp at h
theorem w_row {s : ByteArray} {k : Nat} (hk : k ≤ s.size + 1) (h : ¬ (k : Int) ≤ s.size) : (wTo s k).2 = wordsP s := by rw [← words_end, show k = s.size + 1 from by omega]
set_option maxHeartbeats 2000000 in
set_option maxRecDepth 100000 in
theorem s_Words (s : ByteArray) (hs : s.size ≤ 1048576) : CallsF Tryd.prog 26 [.dat (.str s)] true (fun res B => res = .row 0 ∧ B = [.row 9 .strs (wordsP s) false]) := by
  refine CallsF.of_awp tauOk mixOk Tryd.func26 rfl rfl rfl ?_
  conv => whnf
  repeat' (first
    | ((with_reducible refine Alt.l ?_); conv => whnf)
    | ((with_reducible refine fun (K1 : AX → AState → Prop) hK => ?_); conv => whnf)
    | ((with_reducible show K1 _ _); subst hK; conv => whnf)
    | (with_reducible exact rfl)
    | ((with_reducible refine sp_T ?_); conv => whnf)
    | ((with_reducible refine sp_F ?_); conv => whnf)
    | ((with_reducible refine sp_T' ?_); conv => whnf)
    | ((with_reducible refine sp_F' ?_); conv => whnf)
    | ((with_reducible refine sp_dF ?_ ?_); decide; conv => whnf)
    | ((with_reducible refine sp_dT ?_ ?_); decide; conv => whnf)
    | ((with_reducible refine sp_d (fun h => ?_) (fun h => ?_)) <;> first | contradiction | (subst h; conv => whnf) | (conv => whnf))
    | ((with_reducible refine sp_d' (fun h => ?_) (fun h => ?_)) <;> first | contradiction | (subst h; conv => whnf) | (conv => whnf))
    | ((with_reducible refine sp_eF ?_ ?_); decide; conv => whnf)
    | ((with_reducible refine sp_eT ?_); conv => whnf)
    | ((with_reducible refine sp_e (fun h => ?_) (fun h => ?_)) <;> first | contradiction | (subst h; conv => whnf) | (conv => whnf))
    | ((with_reducible refine sp_e' (fun h => ?_) (fun h => ?_)) <;> first | contradiction | (subst h; conv => whnf) | (conv => whnf))
    | ((with_reducible refine sp_n (fun h => ?_) (fun h => ?_)) <;> first | contradiction | (subst h; conv => whnf) | (conv => whnf))
    | ((with_reducible refine sp_n' (fun h => ?_) (fun h => ?_)) <;> first | contradiction | (subst h; conv => whnf) | (conv => whnf))
    | ((with_reducible refine sp_nb (fun h => ?_) (fun h => ?_)) <;> first | (exact Bool.noConfusion (Eq.trans (Eq.symm h) (show _ = true by with_reducible assumption))) | (exact Bool.noConfusion (Eq.trans (Eq.symm (show _ = false by with_reducible assumption)) h)) | (conv => whnf))
    | ((with_reducible refine sp_nb' (fun h => ?_) (fun h => ?_)) <;> first | (exact Bool.noConfusion (Eq.trans (Eq.symm h) (show _ = true by with_reducible assumption))) | (exact Bool.noConfusion (Eq.trans (Eq.symm (show _ = false by with_reducible assumption)) h)) | (conv => whnf))
    | ((with_reducible refine sp_b (fun h => ?_) (fun h => ?_)) <;> first | (exact Bool.noConfusion (Eq.trans (Eq.symm h) (show _ = true by with_reducible assumption))) | (exact Bool.noConfusion (Eq.trans (Eq.symm (show _ = false by with_reducible assumption)) h)) | (conv => whnf))
    | ((with_reducible refine sp_b' (fun h => ?_) (fun h => ?_)) <;> first | (exact Bool.noConfusion (Eq.trans (Eq.symm h) (show _ = true by with_reducible assumption))) | (exact Bool.noConfusion (Eq.trans (Eq.symm (show _ = false by with_reducible assumption)) h)) | (conv => whnf))
    | (refine ⟨(rfl : nodupB _ = true), rfl, ?_⟩; conv => whnf)
    | (with_reducible refine bnd2 ?_ ?_)
    | (with_reducible refine bnd2' ?_ ?_)
    | (with_reducible refine bndN ?_ ?_)
    | ((with_reducible refine and_of ?_ ?_); conv => whnf)
    | (refine Exists.intro ({k : Nat // k ≤ s.size + 1}) (Exists.intro (fun ⟨k, hk⟩ => mkS Tryd.f26.ntmps [(0, .dat (.str s)), (3, .row 107), (4, .dat (.i (wTo s k).1)), (5, .dat (.i k))] [(107, .row 9 .strs (wTo s k).2 false)]) (Exists.intro (fun ⟨k, hk⟩ => s.size + 1 - k) (Exists.intro ⟨0, Nat.zero_le _⟩ (And.intro (SubP.sub (σ := [(107, some 7)]) ⟨⟨rfl, rfl, rfl⟩, ⟨(wk_dat ?_), rfl, (wk_dat ?_), (wk_dat ?_), trivial⟩, ⟨⟨⟨rfl, rfl⟩, ?_⟩, trivial⟩⟩) (fun ⟨k, hk⟩ => ?_))))); rotate_right; conv => whnf)
    | (refine Exists.intro (⟨k + 1, ?_⟩ : {k : Nat // k ≤ s.size + 1}) (And.intro ?_ (SubP.sub (σ := [(107, some 107)]) ⟨⟨rfl, rfl, rfl⟩, ⟨(wk_dat ?_), rfl, (wk_dat ?_), (wk_dat ?_), trivial⟩, ⟨⟨⟨rfl, rfl⟩, ?_⟩, trivial⟩⟩)))
    | (refine Exists.intro (⟨k + 1, ?_⟩ : {k : Nat // k ≤ s.size + 1}) (And.intro ?_ (SubP.sub (σ := [(107, some 35)]) ⟨⟨rfl, rfl, rfl⟩, ⟨(wk_dat ?_), rfl, (wk_dat ?_), (wk_dat ?_), trivial⟩, ⟨⟨⟨rfl, rfl⟩, ?_⟩, trivial⟩⟩)))
    | ((with_reducible show awpOps _ _ _ _ _ _); conv => whnf)
    | (intro h; conv => whnf))
  all_goals (repeat (clear hK; clear K1))
  all_goals first
    | (with_reducible assumption)
    | (exact absurd (show true = false by with_reducible assumption) (by decide))
    | (exact absurd (show false = true by with_reducible assumption) (by decide))
    | (have q := beq_f (by with_reducible assumption); omega)
    | (have q := beq_t (by with_reducible assumption); omega)
    | (have g : gapB s k = true := (by first | exact gap_0 (by with_reducible assumption) | exact gap_1 (by with_reducible assumption) | exact gap_1 (beq_t (by with_reducible assumption))); first | (have e := w_y g (by with_reducible assumption); first | exact di_eq (by rw [e]) | exact sig_fin (by rw [e]; rfl)) | (have e := w_n g (by with_reducible assumption); first | exact di_eq (by rw [e]) | exact sig_fin (by rw [e])))
    | (have g : gapB s k = false := (by first | exact gap_2 (by with_reducible assumption) (by with_reducible assumption) | exact gap_2 (by with_reducible assumption) (beq_f (by with_reducible assumption))); first | (have e := w_a g (by with_reducible assumption); first | exact di_eq (by rw [e]) | exact sig_fin (by rw [e])) | (have e := w_b g (by with_reducible assumption); first | exact di_eq (by rw [e]) | exact sig_fin (by rw [e])))
    | exact row_fin (w_row hk (by with_reducible assumption))
    | omega
    | exact di_eq (by rw [wrap_id (by omega) (by omega)]; omega)
    | exact di_eq (rfl : ((0 : Nat) : Int) = 0)
    | (dsimp only; omega)
    | (have hb := wTo_lt s k; omega)
    | (have hb := wTo_len s k; show ((wTo s k).2.length + [_].length) * 16 ≤ _; simp only [List.length_singleton]; omega)
    | (have hb := wTo_len s k; have hm : maxLen = 9223372036854775807 := rfl; show (wTo s k).2.length + [_].length ≤ _; simp only [List.length_singleton]; omega)
    | rfl
    | skip
end Vg
