/- Texts are cut at a byte, and numerals are read: the plain law. No condition. -/
import Derived.Test.YtgbjdifegilniaaGreatDoorFmt
import Derived.Test.YtgbjdifegilniaaGreatDoorRet
import Derived.Lib.SplitLaws
import Derived.Lib.IndexLaws
import Derived.Lib.IndexBytes
import Derived.Lib.AtoiAllCases
namespace Vg
open Go Go.Proofs
/-! ### texts are cut -/
def d6 (c : UInt8) : List UInt8 → List (List UInt8)
  | [] => [[]]
  | b :: l => if b = c then [] :: d6 c l else match d6 c l with
    | [] => [[b]]
    | t :: r => (b :: t) :: r
theorem nN (c : UInt8) : ∀ l, d6 c l ≠ []
  | [] => by simp [d6]
  | b :: l => by
    simp only [d6]
    split
    · simp
    · split <;> simp
theorem cC {c : UInt8} : ∀ {l : List UInt8}, c ∉ l → d6 c l = [l]
  | [], _ => rfl
  | b :: l, h => by
    simp only [List.mem_cons, not_or] at h
    rw [d6, if_neg (fun e => h.1 e.symm), cC h.2]
theorem kD {c : UInt8} : ∀ {t : List UInt8} (r : List UInt8), c ∉ t → d6 c (t ++ c :: r) = t :: d6 c r
  | [], r, _ => by simp [d6]
  | b :: t, r, h => by
    simp only [List.mem_cons, not_or] at h
    rw [List.cons_append, d6, if_neg (fun e => h.1 e.symm), kD r h.2]
theorem bT {c : UInt8} : ∀ {l : List UInt8} {d : List (List UInt8)} {t : List UInt8} (b : UInt8), d6 c l = d ++ [t] → d6 c (l ++ [b]) = if b = c then d ++ [t, []] else d ++ [t ++ [b]]
  | [], d, t, b, h => by
    have h' : d ++ [t] = [[]] := h.symm
    cases d with
    | cons x y => simp at h'
    | nil =>
      simp at h'
      subst h'
      simp [d6]
  | x :: l, d, t, b, h => by
    rw [List.cons_append]
    simp only [d6] at h ⊢
    obtain ⟨d', t', e⟩ : ∃ d' t', d6 c l = d' ++ [t'] := ⟨_, _, (List.dropLast_concat_getLast (nN c l)).symm⟩
    have ih := bT b e
    rw [ih]
    rw [e] at h
    by_cases hx : x = c
    · rw [if_pos hx] at h ⊢
      have h2 : ([] :: d') ++ [t'] = d ++ [t] := h
      obtain ⟨e1, e2⟩ := List.append_inj' h2 rfl
      subst e1
      simp at e2
      subst e2
      by_cases hb : b = c
      · rw [if_pos hb, if_pos hb]; rfl
      · rw [if_neg hb, if_neg hb]; rfl
    · rw [if_neg hx] at h ⊢
      cases d' with
      | nil =>
        have h2 : [] ++ [x :: t'] = d ++ [t] := h
        obtain ⟨e1, e2⟩ := List.append_inj' h2 rfl
        subst e1
        simp at e2
        subst e2
        by_cases hb : b = c
        · rw [if_pos hb, if_pos hb]; rfl
        · rw [if_neg hb, if_neg hb]; rfl
      | cons y d' =>
        have h2 : ((x :: y) :: d') ++ [t'] = d ++ [t] := h
        obtain ⟨e1, e2⟩ := List.append_inj' h2 rfl
        subst e1
        simp at e2
        subst e2
        by_cases hb : b = c
        · rw [if_pos hb, if_pos hb]; rfl
        · rw [if_neg hb, if_neg hb]; rfl
theorem fT (c : UInt8) : ∀ (k : Nat) (s : List UInt8), Lib.count s [c] = k → Lib.splitK [c] 0 k s = d6 c s
  | 0, s, h => by
    rw [Lib.count_one] at h
    rw [cC (List.count_eq_zero.1 h)]; rfl
  | k + 1, s, h => by
    rcases Lib.index_spec s [c] with ⟨hm, _⟩ | ⟨i, hi, hlen, _, _⟩
    · rw [Lib.count_miss hm] at h; omega
    · have hone := hi
      rw [Lib.index_one] at hone
      obtain ⟨h1, h2⟩ := Lib.indexByte_some hone
      have hc := Lib.count_hit (by simp) hi
      have hil : i < s.length := (List.getElem?_eq_some_iff.1 h1).1
      have es : s = s.take i ++ c :: s.drop (i + 1) := by
        have e0 : s[i] = c := (List.getElem?_eq_some_iff.1 h1).2
        conv => lhs; rw [← List.take_append_drop i s, List.drop_eq_getElem_cons hil, e0]
      have hno : c ∉ s.take i := fun hmem => by
        obtain ⟨j, hj, e⟩ := List.mem_iff_getElem.1 hmem
        rw [List.length_take] at hj
        refine h2 j omG ?_
        rw [List.getElem_take] at e
        exact List.getElem?_eq_some_iff.2 ⟨by omega, e⟩
      rw [Lib.splitK, if_neg (by rw [hi, beq_iff_eq]; omega), hi]
      have ih := fT c k (s.drop (i + 1)) (by have hc' : Lib.count s [c] = 1 + Lib.count (s.drop (i + 1)) [c] := hc; omega)
      have er : Int.toNat (i : Int) = i := rfl
      rw [er, Nat.add_zero]
      show s.take i :: Lib.splitK [c] 0 k (s.drop (i + 1)) = _
      rw [ih]
      conv => rhs; rw [es, kD _ hno]
def r0 (l : List UInt8) : ByteArray := ⟨l.toArray⟩
theorem mkB_inj {a b : List UInt8} (h : r0 a = r0 b) : a = b := by
  have := congrArg (fun s : ByteArray => s.data.toList) h
  simpa [r0] using this
def o4 (c : UInt8) (s : ByteArray) : List ByteArray := (d6 c s.data.toList).map r0
theorem pN (c : UInt8) (s : ByteArray) : Lib.splitB ⟨#[c]⟩ 0 (Lib.countB s ⟨#[c]⟩) s = o4 c s := by
  have h := Lib.splitB_data ⟨#[c]⟩ 0 (Lib.countB s ⟨#[c]⟩) s
  rw [fT c _ _ rfl] at h
  have := congrArg (List.map r0) h
  rw [List.map_map] at this
  have e : (r0 ∘ fun x : ByteArray => x.data.toList) = id := rfl
  rw [e, List.map_id] at this
  exact this
theorem sQ (c : UInt8) (s : ByteArray) : Lib.countB s ⟨#[c]⟩ ≤ s.size := Lib.countB_le ⟨#[c]⟩ (Nat.le_refl _) _ s (Nat.le_refl _)
theorem oN (c : UInt8) (s : ByteArray) : (Lib.splitB ⟨#[c]⟩ 0 (Lib.countB s ⟨#[c]⟩) s).length = Lib.countB s ⟨#[c]⟩ + 1 := Lib.splitB_all ⟨#[c]⟩ (Nat.le_refl _) 0 _ s rfl
theorem qbq (c : UInt8) (s : ByteArray) : (o4 c s).length ≤ s.size + 1 := by
  rw [← pN, oN]; have := sQ c s; omega
theorem dT (c : UInt8) : ∀ l : List UInt8, ∀ t ∈ d6 c l, t.length ≤ l.length
  | [], t, h => by simp [d6] at h; subst h; simp
  | b :: l, t, h => by
    have ih := dT c l
    simp only [d6] at h
    split at h
    · rcases List.mem_cons.1 h with rfl | h
      · simp
      · have := ih t h; rw [List.length_cons]; omega
    · split at h
      · simp at h; subst h; simp
      · rename_i u r e
        rcases List.mem_cons.1 h with rfl | h
        · have := ih u (by rw [e]; simp); rw [List.length_cons, List.length_cons]; omega
        · have := ih t (by rw [e]; simp [h]); rw [List.length_cons]; omega
theorem splB_le {c : UInt8} {s t : ByteArray} (h : t ∈ o4 c s) : t.size ≤ s.size := by
  obtain ⟨l, hl, rfl⟩ := List.mem_map.1 h
  have := dT c _ l hl
  show l.toArray.size ≤ s.data.size
  simpa using this
theorem iT {c : UInt8} {s : ByteArray} {k : Nat} (h : k < (o4 c s).length) : ((o4 c s).getD k K.strs.dflt).size ≤ s.size := by
  rw [List.getD_eq_getElem?_getD, List.getElem?_eq_getElem h]
  exact splB_le (List.getElem_mem h)
/-! ### numerals are read -/
theorem kM {d : Nat} (h : d < 10) : (UInt8.ofNat (48 + d)).toNat = 48 + d := by
  show (48 + d) % 256 = 48 + d
  omega
theorem qcn : ∀ (u : Nat), u < 1844674407370955161 * 10 → ∀ r : List UInt8, Lib.parseUint10 0 (Lib.decDigits u ++ r) = Lib.parseUint10 u r := by
  intro u
  induction u using Nat.strongRecOn with
  | ind u ih =>
    intro hu r
    by_cases h : u < 10
    · rw [Lib.decDigits, dif_pos h, List.singleton_append, Lib.parseUint10, kM h, if_pos omG, if_neg omG, if_neg omG]
      congr 1; omega
    · rw [Lib.decDigits, dif_neg h, List.append_assoc, ih (u / 10) omG omG, List.singleton_append, Lib.parseUint10, kM omG, if_pos omG, if_neg omG, if_neg omG]
      congr 1; omega
theorem jM (u : Nat) : Lib.decDigits u ≠ [] := by
  intro e
  have := lQ u
  rw [e] at this
  simp at this
theorem fV {u : Nat} (hu : u < 1844674407370955161 * 10) : Lib.parseMag (Lib.decDigits u) = .ok u := by
  unfold Lib.parseMag
  rw [if_neg (jM u)]
  have := qcn u hu []
  rw [List.append_nil] at this
  exact this
theorem lF : ∀ (u : Nat), ∀ b ∈ Lib.decDigits u, 48 ≤ b.toNat ∧ b.toNat ≤ 57 := by
  intro u
  induction u using Nat.strongRecOn with
  | ind u ih =>
    intro b hb
    rw [Lib.decDigits] at hb
    split at hb
    · rename_i h
      rw [List.mem_singleton] at hb
      subst hb
      rw [kM h]; omega
    · rename_i h
      rcases List.mem_append.1 hb with hb | hb
      · exact ih (u / 10) omG b hb
      · rw [List.mem_singleton] at hb
        subst hb
        rw [kM omG]; omega
theorem qfi {n : Int} (h0 : -9223372036854775808 ≤ n) (h1 : n ≤ 9223372036854775807) : Lib.atoiAll (Lib.itoa n) = .ok n := by
  unfold Lib.itoa
  by_cases h : n < 0
  · rw [if_pos h, Lib.atoiAll_minus, fV omG]
    show Lib.signed (.ok _) = _
    unfold Lib.signed
    simp only
    rw [if_neg omG]
    congr 1; omega
  · rw [if_neg h]
    cases e : Lib.decDigits n.toNat with
    | nil => exact absurd e (jM _)
    | cons c r =>
      have hc := lF n.toNat c (by rw [e]; simp)
      rw [Lib.atoiAll_plain c r omG omG, ← e, fV omG]
      show Lib.signless (.ok _) = _
      unfold Lib.signless
      simp only
      rw [if_neg omG]
      congr 1; omega
theorem qM {n : Int} (h0 : -9223372036854775808 ≤ n) (h1 : n ≤ 9223372036854775807) : sA (s1 n) = (n, false) := by
  unfold sA
  have : (s1 n).data.toList = Lib.itoa n := by simp [s1]
  rw [this, qfi h0 h1]
structure NumOf (s : ByteArray) (n : Int) : Prop where
  lo : -9223372036854775808 ≤ n
  hi : n ≤ 9223372036854775807
  eq : s1 n = s
theorem NumOf.uniq {s : ByteArray} {n m : Int} (h : NumOf s n) (k : NumOf s m) : n = m := by
  have e1 := qM h.lo h.hi
  have e2 := qM k.lo k.hi
  rw [h.eq] at e1
  rw [k.eq] at e2
  exact congrArg Prod.fst (e1.symm.trans e2)
open Classical in
noncomputable def x6 (s : ByteArray) : Int × Bool := if h : ∃ n, NumOf s n then (h.choose, true) else (0, false)
theorem gV {s : ByteArray} {n : Int} (h : NumOf s n) : x6 s = (n, true) := by
  have hx : ∃ n, NumOf s n := ⟨n, h⟩
  unfold x6
  rw [dif_pos hx, hx.choose_spec.uniq h]
theorem iV {s : ByteArray} (h : ∀ n, ¬ NumOf s n) : x6 s = (0, false) := by
  unfold x6
  rw [dif_neg (fun ⟨n, hn⟩ => h n hn)]
theorem cG {n : Int} (h0 : -9223372036854775808 ≤ n) (h1 : n ≤ 9223372036854775807) : x6 (s1 n) = (n, true) := gV ⟨h0, h1, rfl⟩
theorem rM (s : ByteArray) : -9223372036854775808 ≤ (sA s).1 ∧ (sA s).1 ≤ 9223372036854775807 := by
  unfold sA
  split
  · rename_i v e; exact Lib.atoiAll_bounds e
  · exact Lib.atoiSat_bounds _
  · simp
theorem kV {s : ByteArray} (h : (sA s).2 = true) : x6 s = (0, false) :=
  iV fun n hn => by
    have e := qM hn.lo hn.hi
    rw [hn.eq] at e
    rw [e] at h
    cases h
theorem jV {s : ByteArray} (h : s1 (sA s).1 ≠ s) : x6 s = (0, false) :=
  iV fun n hn => by
    have e := qM hn.lo hn.hi
    rw [hn.eq] at e
    rw [e] at h
    exact h hn.eq
theorem lV {s : ByteArray} (h : s1 (sA s).1 = s) : x6 s = ((sA s).1, true) := gV ⟨(rM s).1, (rM s).2, h⟩
end Vg
