/- Texts are cut at a byte, and numerals are read: the plain law. No condition. -/
import Derived.Test.YtlopkgjiccppfaaDoorFmt
import Derived.Test.YtlopkgjiccppfaaDoorSplitI
import Derived.Test.YtlopkgjiccppfaaDoorAtoiI
import Derived.Lib.SplitLaws
import Derived.Lib.IndexLaws
import Derived.Lib.IndexBytes
import Derived.Lib.AtoiAllCases
namespace Vg
open Go Go.Proofs

/-! ### texts are cut -/
/-- the pieces of a text between the bytes c -/
def splitL (c : UInt8) : List UInt8 → List (List UInt8)
  | [] => [[]]
  | b :: l => if b = c then [] :: splitL c l else match splitL c l with
    | [] => [[b]]
    | t :: r => (b :: t) :: r
theorem splitL_ne (c : UInt8) : ∀ l, splitL c l ≠ []
  | [] => by simp [splitL]
  | b :: l => by
    simp only [splitL]
    split
    · simp
    · split <;> simp
theorem splitL_none {c : UInt8} : ∀ {l : List UInt8}, c ∉ l → splitL c l = [l]
  | [], _ => rfl
  | b :: l, h => by
    simp only [List.mem_cons, not_or] at h
    rw [splitL, if_neg (fun e => h.1 e.symm), splitL_none h.2]
theorem splitL_app {c : UInt8} : ∀ {t : List UInt8} (r : List UInt8), c ∉ t → splitL c (t ++ c :: r) = t :: splitL c r
  | [], r, _ => by simp [splitL]
  | b :: t, r, h => by
    simp only [List.mem_cons, not_or] at h
    rw [List.cons_append, splitL, if_neg (fun e => h.1 e.symm), splitL_app r h.2]
theorem splitL_snoc {c : UInt8} : ∀ {l : List UInt8} {d : List (List UInt8)} {t : List UInt8} (b : UInt8), splitL c l = d ++ [t] → splitL c (l ++ [b]) = if b = c then d ++ [t, []] else d ++ [t ++ [b]]
  | [], d, t, b, h => by
    have h' : d ++ [t] = [[]] := h.symm
    cases d with
    | cons x y => simp at h'
    | nil =>
      simp at h'
      subst h'
      simp [splitL]
  | x :: l, d, t, b, h => by
    rw [List.cons_append]
    simp only [splitL] at h ⊢
    obtain ⟨d', t', e⟩ : ∃ d' t', splitL c l = d' ++ [t'] := ⟨_, _, (List.dropLast_concat_getLast (splitL_ne c l)).symm⟩
    have ih := splitL_snoc b e
    rw [ih]
    rw [e] at h
    by_cases hx : x = c
    · rw [if_pos hx] at h ⊢
      have h2 : ([] :: d') ++ [t'] = d ++ [t] := h
      obtain ⟨e1, e2⟩ := List.append_inj' h2 rfl
      subst e1
      simp at e2
      subst e2
      by_cases hb : b = c
      · rw [if_pos hb, if_pos hb]; rfl
      · rw [if_neg hb, if_neg hb]; rfl
    · rw [if_neg hx] at h ⊢
      cases d' with
      | nil =>
        have h2 : [] ++ [x :: t'] = d ++ [t] := h
        obtain ⟨e1, e2⟩ := List.append_inj' h2 rfl
        subst e1
        simp at e2
        subst e2
        by_cases hb : b = c
        · rw [if_pos hb, if_pos hb]; rfl
        · rw [if_neg hb, if_neg hb]; rfl
      | cons y d' =>
        have h2 : ((x :: y) :: d') ++ [t'] = d ++ [t] := h
        obtain ⟨e1, e2⟩ := List.append_inj' h2 rfl
        subst e1
        simp at e2
        subst e2
        by_cases hb : b = c
        · rw [if_pos hb, if_pos hb]; rfl
        · rw [if_neg hb, if_neg hb]; rfl
theorem splitK_L (c : UInt8) : ∀ (k : Nat) (s : List UInt8), Lib.count s [c] = k → Lib.splitK [c] 0 k s = splitL c s
  | 0, s, h => by
    rw [Lib.count_one] at h
    rw [splitL_none (List.count_eq_zero.1 h)]; rfl
  | k + 1, s, h => by
    rcases Lib.index_spec s [c] with ⟨hm, _⟩ | ⟨i, hi, hlen, _, _⟩
    · rw [Lib.count_miss hm] at h; omega
    · have hone := hi
      rw [Lib.index_one] at hone
      obtain ⟨h1, h2⟩ := Lib.indexByte_some hone
      have hc := Lib.count_hit (by simp) hi
      have hil : i < s.length := (List.getElem?_eq_some_iff.1 h1).1
      have es : s = s.take i ++ c :: s.drop (i + 1) := by
        have e0 : s[i] = c := (List.getElem?_eq_some_iff.1 h1).2
        conv => lhs; rw [← List.take_append_drop i s, List.drop_eq_getElem_cons hil, e0]
      have hno : c ∉ s.take i := fun hmem => by
        obtain ⟨j, hj, e⟩ := List.mem_iff_getElem.1 hmem
        rw [List.length_take] at hj
        refine h2 j (by omega) ?_
        rw [List.getElem_take] at e
        exact List.getElem?_eq_some_iff.2 ⟨by omega, e⟩
      rw [Lib.splitK, if_neg (by rw [hi, beq_iff_eq]; omega), hi]
      have ih := splitK_L c k (s.drop (i + 1)) (by have hc' : Lib.count s [c] = 1 + Lib.count (s.drop (i + 1)) [c] := hc; omega)
      have er : Int.toNat (i : Int) = i := rfl
      rw [er, Nat.add_zero]
      show s.take i :: Lib.splitK [c] 0 k (s.drop (i + 1)) = _
      rw [ih]
      conv => rhs; rw [es, splitL_app _ hno]
def mkB (l : List UInt8) : ByteArray := ⟨l.toArray⟩
theorem mkB_data (s : ByteArray) : mkB s.data.toList = s := rfl
theorem mkB_inj {a b : List UInt8} (h : mkB a = mkB b) : a = b := by
  have := congrArg (fun s : ByteArray => s.data.toList) h
  simpa [mkB] using this
/-- the pieces of a text -/
def splB (c : UInt8) (s : ByteArray) : List ByteArray := (splitL c s.data.toList).map mkB
theorem splitB_eq (c : UInt8) (s : ByteArray) : Lib.splitB ⟨#[c]⟩ 0 (Lib.countB s ⟨#[c]⟩) s = splB c s := by
  have h := Lib.splitB_data ⟨#[c]⟩ 0 (Lib.countB s ⟨#[c]⟩) s
  rw [splitK_L c _ _ rfl] at h
  have := congrArg (List.map mkB) h
  rw [List.map_map] at this
  have e : (mkB ∘ fun x : ByteArray => x.data.toList) = id := rfl
  rw [e, List.map_id] at this
  exact this
theorem countB_one (c : UInt8) (s : ByteArray) : Lib.countB s ⟨#[c]⟩ ≤ s.size := Lib.countB_le ⟨#[c]⟩ (Nat.le_refl _) _ s (Nat.le_refl _)
theorem splitB_len (c : UInt8) (s : ByteArray) : (Lib.splitB ⟨#[c]⟩ 0 (Lib.countB s ⟨#[c]⟩) s).length = Lib.countB s ⟨#[c]⟩ + 1 := Lib.splitB_all ⟨#[c]⟩ (Nat.le_refl _) 0 _ s rfl
theorem splB_len (c : UInt8) (s : ByteArray) : (splB c s).length ≤ s.size + 1 := by
  rw [← splitB_eq, splitB_len]; have := countB_one c s; omega
/-- each piece is no longer than the text -/
theorem splitL_le (c : UInt8) : ∀ l : List UInt8, ∀ t ∈ splitL c l, t.length ≤ l.length
  | [], t, h => by simp [splitL] at h; subst h; simp
  | b :: l, t, h => by
    have ih := splitL_le c l
    simp only [splitL] at h
    split at h
    · rcases List.mem_cons.1 h with rfl | h
      · simp
      · have := ih t h; rw [List.length_cons]; omega
    · split at h
      · simp at h; subst h; simp
      · rename_i u r e
        rcases List.mem_cons.1 h with rfl | h
        · have := ih u (by rw [e]; simp); rw [List.length_cons, List.length_cons]; omega
        · have := ih t (by rw [e]; simp [h]); rw [List.length_cons]; omega
theorem splB_le {c : UInt8} {s t : ByteArray} (h : t ∈ splB c s) : t.size ≤ s.size := by
  obtain ⟨l, hl, rfl⟩ := List.mem_map.1 h
  have := splitL_le c _ l hl
  show l.toArray.size ≤ s.data.size
  simpa using this
theorem splB_at {c : UInt8} {s : ByteArray} {k : Nat} (h : k < (splB c s).length) : ((splB c s).getD k K.strs.dflt).size ≤ s.size := by
  rw [List.getD_eq_getElem?_getD, List.getElem?_eq_getElem h]
  exact splB_le (List.getElem_mem h)

/-! ### numerals are read -/
theorem dig_byte {d : Nat} (h : d < 10) : (UInt8.ofNat (48 + d)).toNat = 48 + d := by
  show (48 + d) % 256 = 48 + d
  omega
theorem parseU_dig : ∀ (u : Nat), u < 1844674407370955161 * 10 → ∀ r : List UInt8, Lib.parseUint10 0 (Lib.decDigits u ++ r) = Lib.parseUint10 u r := by
  intro u
  induction u using Nat.strongRecOn with
  | ind u ih =>
    intro hu r
    by_cases h : u < 10
    · rw [Lib.decDigits, dif_pos h, List.singleton_append, Lib.parseUint10, dig_byte h, if_pos (by omega), if_neg (by omega), if_neg (by omega)]
      congr 1; omega
    · rw [Lib.decDigits, dif_neg h, List.append_assoc, ih (u / 10) (by omega) (by omega), List.singleton_append, Lib.parseUint10, dig_byte (by omega), if_pos (by omega), if_neg (by omega), if_neg (by omega)]
      congr 1; omega
theorem dig_ne (u : Nat) : Lib.decDigits u ≠ [] := by
  intro e
  have := dig_pos u
  rw [e] at this
  simp at this
theorem parseM_dig {u : Nat} (hu : u < 1844674407370955161 * 10) : Lib.parseMag (Lib.decDigits u) = .ok u := by
  unfold Lib.parseMag
  rw [if_neg (dig_ne u)]
  have := parseU_dig u hu []
  rw [List.append_nil] at this
  exact this
theorem dig_all : ∀ (u : Nat), ∀ b ∈ Lib.decDigits u, 48 ≤ b.toNat ∧ b.toNat ≤ 57 := by
  intro u
  induction u using Nat.strongRecOn with
  | ind u ih =>
    intro b hb
    rw [Lib.decDigits] at hb
    split at hb
    · rename_i h
      rw [List.mem_singleton] at hb
      subst hb
      rw [dig_byte h]; omega
    · rename_i h
      rcases List.mem_append.1 hb with hb | hb
      · exact ih (u / 10) (by omega) b hb
      · rw [List.mem_singleton] at hb
        subst hb
        rw [dig_byte (by omega)]; omega
theorem atoi_itoa {n : Int} (h0 : -9223372036854775808 ≤ n) (h1 : n ≤ 9223372036854775807) : Lib.atoiAll (Lib.itoa n) = .ok n := by
  unfold Lib.itoa
  by_cases h : n < 0
  · rw [if_pos h, Lib.atoiAll_minus, parseM_dig (by omega)]
    show Lib.signed (.ok _) = _
    unfold Lib.signed
    simp only
    rw [if_neg (by omega)]
    congr 1; omega
  · rw [if_neg h]
    cases e : Lib.decDigits n.toNat with
    | nil => exact absurd e (dig_ne _)
    | cons c r =>
      have hc := dig_all n.toNat c (by rw [e]; simp)
      rw [Lib.atoiAll_plain c r (by omega) (by omega), ← e, parseM_dig (by omega)]
      show Lib.signless (.ok _) = _
      unfold Lib.signless
      simp only
      rw [if_neg (by omega)]
      congr 1; omega
theorem atoiX_itoa {n : Int} (h0 : -9223372036854775808 ≤ n) (h1 : n ≤ 9223372036854775807) : atoiX (itoaS n) = (n, false) := by
  unfold atoiX
  have : (itoaS n).data.toList = Lib.itoa n := by simp [itoaS]
  rw [this, atoi_itoa h0 h1]
structure NumOf (s : ByteArray) (n : Int) : Prop where
  lo : -9223372036854775808 ≤ n
  hi : n ≤ 9223372036854775807
  eq : itoaS n = s
theorem NumOf.uniq {s : ByteArray} {n m : Int} (h : NumOf s n) (k : NumOf s m) : n = m := by
  have e1 := atoiX_itoa h.lo h.hi
  have e2 := atoiX_itoa k.lo k.hi
  rw [h.eq] at e1
  rw [k.eq] at e2
  exact congrArg Prod.fst (e1.symm.trans e2)
open Classical in
/-- what a text says as a number, and whether it says one -/
noncomputable def parseI (s : ByteArray) : Int × Bool := if h : ∃ n, NumOf s n then (h.choose, true) else (0, false)
theorem parseI_yes {s : ByteArray} {n : Int} (h : NumOf s n) : parseI s = (n, true) := by
  have hx : ∃ n, NumOf s n := ⟨n, h⟩
  unfold parseI
  rw [dif_pos hx, hx.choose_spec.uniq h]
theorem parseI_no {s : ByteArray} (h : ∀ n, ¬ NumOf s n) : parseI s = (0, false) := by
  unfold parseI
  rw [dif_neg (fun ⟨n, hn⟩ => h n hn)]
theorem parseI_itoa {n : Int} (h0 : -9223372036854775808 ≤ n) (h1 : n ≤ 9223372036854775807) : parseI (itoaS n) = (n, true) := parseI_yes ⟨h0, h1, rfl⟩
theorem atoiX_bounds (s : ByteArray) : -9223372036854775808 ≤ (atoiX s).1 ∧ (atoiX s).1 ≤ 9223372036854775807 := by
  unfold atoiX
  split
  · rename_i v e; exact Lib.atoiAll_bounds e
  · exact Lib.atoiSat_bounds _
  · simp
theorem parseI_err {s : ByteArray} (h : (atoiX s).2 = true) : parseI s = (0, false) :=
  parseI_no fun n hn => by
    have e := atoiX_itoa hn.lo hn.hi
    rw [hn.eq] at e
    rw [e] at h
    cases h
theorem parseI_ne {s : ByteArray} (h : itoaS (atoiX s).1 ≠ s) : parseI s = (0, false) :=
  parseI_no fun n hn => by
    have e := atoiX_itoa hn.lo hn.hi
    rw [hn.eq] at e
    rw [e] at h
    exact h hn.eq
theorem parseI_eq {s : ByteArray} (h : itoaS (atoiX s).1 = s) : parseI s = ((atoiX s).1, true) := parseI_yes ⟨(atoiX_bounds s).1, (atoiX_bounds s).2, h⟩
theorem parseI_bounds (s : ByteArray) : -9223372036854775808 ≤ (parseI s).1 ∧ (parseI s).1 ≤ 9223372036854775807 := by
  unfold parseI
  split
  · rename_i h; exact ⟨h.choose_spec.lo, h.choose_spec.hi⟩
  · simp
end Vg
