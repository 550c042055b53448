/- Texts are cut at a byte, and numerals are read: the plain law. No condition. -/
import Derived.Test.YtndmanmhalpjgaaGreatDoorFmt
import Derived.Test.YtndmanmhalpjgaaGreatDoorRet
import Derived.Lib.SplitLaws
import Derived.Lib.IndexLaws
import Derived.Lib.IndexBytes
import Derived.Lib.AtoiAllCases
namespace Vg
open Go Go.Proofs
/-! ### texts are cut -/
def k8 (c : UInt8) : List UInt8 → List (List UInt8)
  | [] => [[]]
  | b :: l => if b = c then [] :: k8 c l else match k8 c l with
    | [] => [[b]]
    | t :: r => (b :: t) :: r
theorem dJ {c : UInt8} : ∀ {l : List UInt8}, c ∉ l → k8 c l = [l]
  | [], _ => rfl
  | b :: l, h => by
    simp only [List.mem_cons, not_or] at h
    rw [k8, if_neg (fun e => h.1 e.symm), dJ h.2]
theorem xD {c : UInt8} : ∀ {t : List UInt8} (r : List UInt8), c ∉ t → k8 c (t ++ c :: r) = t :: k8 c r
  | [], r, _ => by simp [k8]
  | b :: t, r, h => by
    simp only [List.mem_cons, not_or] at h
    rw [List.cons_append, k8, if_neg (fun e => h.1 e.symm), xD r h.2]
theorem vP (c : UInt8) : ∀ (k : Nat) (s : List UInt8), Lib.count s [c] = k → Lib.splitK [c] 0 k s = k8 c s
  | 0, s, h => by
    rw [Lib.count_one] at h
    rw [dJ (List.count_eq_zero.1 h)]; rfl
  | k + 1, s, h => by
    rcases Lib.index_spec s [c] with ⟨hm, _⟩ | ⟨i, hi, hlen, _, _⟩
    · rw [Lib.count_miss hm] at h; omega
    · have hone := hi
      rw [Lib.index_one] at hone
      obtain ⟨h1, h2⟩ := Lib.indexByte_some hone
      have hc := Lib.count_hit (by simp) hi
      have hil : i < s.length := (List.getElem?_eq_some_iff.1 h1).1
      have es : s = s.take i ++ c :: s.drop (i + 1) := by
        have e0 : s[i] = c := (List.getElem?_eq_some_iff.1 h1).2
        conv => lhs; rw [← List.take_append_drop i s, List.drop_eq_getElem_cons hil, e0]
      have hno : c ∉ s.take i := fun hmem => by
        obtain ⟨j, hj, e⟩ := List.mem_iff_getElem.1 hmem
        rw [List.length_take] at hj
        refine h2 j omG ?_
        rw [List.getElem_take] at e
        exact List.getElem?_eq_some_iff.2 ⟨by omega, e⟩
      rw [Lib.splitK, if_neg (by rw [hi, beq_iff_eq]; omega), hi]
      have ih := vP c k (s.drop (i + 1)) (by have hc' : Lib.count s [c] = 1 + Lib.count (s.drop (i + 1)) [c] := hc; omega)
      have er : Int.toNat (i : Int) = i := rfl
      rw [er, Nat.add_zero]
      show s.take i :: Lib.splitK [c] 0 k (s.drop (i + 1)) = _
      rw [ih]
      conv => rhs; rw [es, xD _ hno]
def mkB (l : List UInt8) : ByteArray := ⟨l.toArray⟩
def s7 (c : UInt8) (s : ByteArray) : List ByteArray := (k8 c s.data.toList).map mkB
theorem lW (c : UInt8) (s : ByteArray) : Lib.splitB ⟨#[c]⟩ 0 (Lib.countB s ⟨#[c]⟩) s = s7 c s := by
  have h := Lib.splitB_data ⟨#[c]⟩ 0 (Lib.countB s ⟨#[c]⟩) s
  rw [vP c _ _ rfl] at h
  have := congrArg (List.map mkB) h
  rw [List.map_map] at this
  have e : (mkB ∘ fun x : ByteArray => x.data.toList) = id := rfl
  rw [e, List.map_id] at this
  exact this
theorem qax (c : UInt8) (s : ByteArray) : Lib.countB s ⟨#[c]⟩ ≤ s.size := Lib.countB_le ⟨#[c]⟩ (Nat.le_refl _) _ s (Nat.le_refl _)
theorem kW (c : UInt8) (s : ByteArray) : (Lib.splitB ⟨#[c]⟩ 0 (Lib.countB s ⟨#[c]⟩) s).length = Lib.countB s ⟨#[c]⟩ + 1 := Lib.splitB_all ⟨#[c]⟩ (Nat.le_refl _) 0 _ s rfl
theorem uP (c : UInt8) : ∀ l : List UInt8, ∀ t ∈ k8 c l, t.length ≤ l.length
  | [], t, h => by simp [k8] at h; subst h; simp
  | b :: l, t, h => by
    have ih := uP c l
    simp only [k8] at h
    split at h
    · rcases List.mem_cons.1 h with rfl | h
      · simp
      · have := ih t h; rw [List.length_cons]; omega
    · split at h
      · simp at h; subst h; simp
      · rename_i u r e
        rcases List.mem_cons.1 h with rfl | h
        · have := ih u (by rw [e]; simp); rw [List.length_cons, List.length_cons]; omega
        · have := ih t (by rw [e]; simp [h]); rw [List.length_cons]; omega
theorem splB_le {c : UInt8} {s t : ByteArray} (h : t ∈ s7 c s) : t.size ≤ s.size := by
  obtain ⟨l, hl, rfl⟩ := List.mem_map.1 h
  have := uP c _ l hl
  show l.toArray.size ≤ s.data.size
  simpa using this
theorem splB_at {c : UInt8} {s : ByteArray} {k : Nat} (h : k < (s7 c s).length) : ((s7 c s).getD k K.strs.dflt).size ≤ s.size := by
  rw [List.getD_eq_getElem?_getD, List.getElem?_eq_getElem h]
  exact splB_le (List.getElem_mem h)
/-! ### numerals are read -/
theorem aL {d : Nat} (h : d < 10) : (UInt8.ofNat (48 + d)).toNat = 48 + d := by
  show (48 + d) % 256 = 48 + d
  omega
theorem lX : ∀ (u : Nat), u < 1844674407370955161 * 10 → ∀ r : List UInt8, Lib.parseUint10 0 (Lib.decDigits u ++ r) = Lib.parseUint10 u r := by
  intro u
  induction u using Nat.strongRecOn with
  | ind u ih =>
    intro hu r
    by_cases h : u < 10
    · rw [Lib.decDigits, dif_pos h, List.singleton_append, Lib.parseUint10, aL h, if_pos omG, if_neg omG, if_neg omG]
      congr 1; omega
    · rw [Lib.decDigits, dif_neg h, List.append_assoc, ih (u / 10) omG omG, List.singleton_append, Lib.parseUint10, aL omG, if_pos omG, if_neg omG, if_neg omG]
      congr 1; omega
theorem zK (u : Nat) : Lib.decDigits u ≠ [] := by
  intro e
  have := dig_pos u
  rw [e] at this
  simp at this
theorem eR {u : Nat} (hu : u < 1844674407370955161 * 10) : Lib.parseMag (Lib.decDigits u) = .ok u := by
  unfold Lib.parseMag
  rw [if_neg (zK u)]
  have := lX u hu []
  rw [List.append_nil] at this
  exact this
theorem iO : ∀ (u : Nat), ∀ b ∈ Lib.decDigits u, 48 ≤ b.toNat ∧ b.toNat ≤ 57 := by
  intro u
  induction u using Nat.strongRecOn with
  | ind u ih =>
    intro b hb
    rw [Lib.decDigits] at hb
    split at hb
    · rename_i h
      rw [List.mem_singleton] at hb
      subst hb
      rw [aL h]; omega
    · rename_i h
      rcases List.mem_append.1 hb with hb | hb
      · exact ih (u / 10) omG b hb
      · rw [List.mem_singleton] at hb
        subst hb
        rw [aL omG]; omega
theorem qbc {n : Int} (h0 : -9223372036854775808 ≤ n) (h1 : n ≤ 9223372036854775807) : Lib.atoiAll (Lib.itoa n) = .ok n := by
  unfold Lib.itoa
  by_cases h : n < 0
  · rw [if_pos h, Lib.atoiAll_minus, eR omG]
    show Lib.signed (.ok _) = _
    unfold Lib.signed
    simp only
    rw [if_neg omG]
    congr 1; omega
  · rw [if_neg h]
    cases e : Lib.decDigits n.toNat with
    | nil => exact absurd e (zK _)
    | cons c r =>
      have hc := iO n.toNat c (by rw [e]; simp)
      rw [Lib.atoiAll_plain c r omG omG, ← e, eR omG]
      show Lib.signless (.ok _) = _
      unfold Lib.signless
      simp only
      rw [if_neg omG]
      congr 1; omega
theorem eL {n : Int} (h0 : -9223372036854775808 ≤ n) (h1 : n ≤ 9223372036854775807) : bA (p5 n) = (n, false) := by
  unfold bA
  have : (p5 n).data.toList = Lib.itoa n := by simp [p5]
  rw [this, qbc h0 h1]
structure NumOf (s : ByteArray) (n : Int) : Prop where
  lo : -9223372036854775808 ≤ n
  hi : n ≤ 9223372036854775807
  eq : p5 n = s
theorem NumOf.uniq {s : ByteArray} {n m : Int} (h : NumOf s n) (k : NumOf s m) : n = m := by
  have e1 := eL h.lo h.hi
  have e2 := eL k.lo k.hi
  rw [h.eq] at e1
  rw [k.eq] at e2
  exact congrArg Prod.fst (e1.symm.trans e2)
open Classical in
noncomputable def wA (s : ByteArray) : Int × Bool := if h : ∃ n, NumOf s n then (h.choose, true) else (0, false)
theorem fR {s : ByteArray} {n : Int} (h : NumOf s n) : wA s = (n, true) := by
  have hx : ∃ n, NumOf s n := ⟨n, h⟩
  unfold wA
  rw [dif_pos hx, hx.choose_spec.uniq h]
theorem gR {s : ByteArray} (h : ∀ n, ¬ NumOf s n) : wA s = (0, false) := by
  unfold wA
  rw [dif_neg (fun ⟨n, hn⟩ => h n hn)]
theorem tM {n : Int} (h0 : -9223372036854775808 ≤ n) (h1 : n ≤ 9223372036854775807) : wA (p5 n) = (n, true) := fR ⟨h0, h1, rfl⟩
theorem fL (s : ByteArray) : -9223372036854775808 ≤ (bA s).1 ∧ (bA s).1 ≤ 9223372036854775807 := by
  unfold bA
  split
  · rename_i v e; exact Lib.atoiAll_bounds e
  · exact Lib.atoiSat_bounds _
  · simp
theorem jR {s : ByteArray} (h : (bA s).2 = true) : wA s = (0, false) :=
  gR fun n hn => by
    have e := eL hn.lo hn.hi
    rw [hn.eq] at e
    rw [e] at h
    cases h
theorem iR {s : ByteArray} (h : p5 (bA s).1 ≠ s) : wA s = (0, false) :=
  gR fun n hn => by
    have e := eL hn.lo hn.hi
    rw [hn.eq] at e
    rw [e] at h
    exact h hn.eq
theorem kR {s : ByteArray} (h : p5 (bA s).1 = s) : wA s = ((bA s).1, true) := fR ⟨(fL s).1, (fL s).2, h⟩
end Vg
