/- Texts are cut at a byte, and numerals are read: the plain law. No condition. -/
import Derived.Test.YtcdepophgnlphaaDoorFmt
import Derived.Test.YtcdepophgnlphaaDoorRet
import Derived.Shelf.Strings.Split
import Derived.Lib.SplitLaws
import Derived.Lib.IndexLaws
import Derived.Lib.IndexBytes
import Derived.Lib.AtoiAllCases
namespace Vg
open Go Go.Proofs
/-! ### texts are cut -/
def m9 (c : UInt8) : List UInt8 → List (List UInt8)
  | [] => [[]]
  | b :: l => if b = c then [] :: m9 c l else match m9 c l with
    | [] => [[b]]
    | t :: r => (b :: t) :: r
theorem jL {c : UInt8} : ∀ {l : List UInt8}, c ∉ l → m9 c l = [l]
  | [], _ => rfl
  | b :: l, h => by
    simp only [List.mem_cons, not_or] at h
    rw [m9, if_neg (fun e => h.1 e.symm), jL h.2]
theorem wD {c : UInt8} : ∀ {t : List UInt8} (r : List UInt8), c ∉ t → m9 c (t ++ c :: r) = t :: m9 c r
  | [], r, _ => by simp [m9]
  | b :: t, r, h => by
    simp only [List.mem_cons, not_or] at h
    rw [List.cons_append, m9, if_neg (fun e => h.1 e.symm), wD r h.2]
def m0 (l : List UInt8) : ByteArray := ⟨l.toArray⟩
theorem mkB_inj {a b : List UInt8} (h : m0 a = m0 b) : a = b := by
  have := congrArg (fun s : ByteArray => s.data.toList) h
  simpa [m0] using this
def zF (c : UInt8) (s : ByteArray) : List ByteArray := (m9 c s.data.toList).map m0
/-! ### numerals are read -/
theorem dF {d : Nat} (h : d < 10) : (UInt8.ofNat (48 + d)).toNat = 48 + d := by
  show (48 + d) % 256 = 48 + d
  omega
theorem vZ : ∀ (u : Nat), u < 1844674407370955161 * 10 → ∀ r : List UInt8, Lib.parseUint10 0 (Lib.decDigits u ++ r) = Lib.parseUint10 u r := by
  intro u
  induction u using Nat.strongRecOn with
  | ind u ih =>
    intro hu r
    by_cases h : u < 10
    · rw [Lib.decDigits, dif_pos h, List.singleton_append, Lib.parseUint10, dF h, if_pos omG, if_neg omG, if_neg omG]
      congr 1; omega
    · rw [Lib.decDigits, dif_neg h, List.append_assoc, ih (u / 10) omG omG, List.singleton_append, Lib.parseUint10, dF omG, if_pos omG, if_neg omG, if_neg omG]
      congr 1; omega
theorem rH (u : Nat) : Lib.decDigits u ≠ [] := by
  intro e
  have := eK u
  rw [e] at this
  simp at this
theorem tR {u : Nat} (hu : u < 1844674407370955161 * 10) : Lib.parseMag (Lib.decDigits u) = .ok u := by
  unfold Lib.parseMag
  rw [if_neg (rH u)]
  have := vZ u hu []
  rw [List.append_nil] at this
  exact this
theorem lC : ∀ (u : Nat), ∀ b ∈ Lib.decDigits u, 48 ≤ b.toNat ∧ b.toNat ≤ 57 := by
  intro u
  induction u using Nat.strongRecOn with
  | ind u ih =>
    intro b hb
    rw [Lib.decDigits] at hb
    split at hb
    · rename_i h
      rw [List.mem_singleton] at hb
      subst hb
      rw [dF h]; omega
    · rename_i h
      rcases List.mem_append.1 hb with hb | hb
      · exact ih (u / 10) omG b hb
      · rw [List.mem_singleton] at hb
        subst hb
        rw [dF omG]; omega
theorem qb6 {n : Int} (h0 : -9223372036854775808 ≤ n) (h1 : n ≤ 9223372036854775807) : Lib.atoiAll (Lib.itoa n) = .ok n := by
  unfold Lib.itoa
  by_cases h : n < 0
  · rw [if_pos h, Lib.atoiAll_minus, tR omG]
    show Lib.signed (.ok _) = _
    unfold Lib.signed
    simp only
    rw [if_neg omG]
    congr 1; omega
  · rw [if_neg h]
    cases e : Lib.decDigits n.toNat with
    | nil => exact absurd e (rH _)
    | cons c r =>
      have hc := lC n.toNat c (by rw [e]; simp)
      rw [Lib.atoiAll_plain c r omG omG, ← e, tR omG]
      show Lib.signless (.ok _) = _
      unfold Lib.signless
      simp only
      rw [if_neg omG]
      congr 1; omega
theorem jK {n : Int} (h0 : -9223372036854775808 ≤ n) (h1 : n ≤ 9223372036854775807) : k9 (u2 n) = (n, false) := by
  unfold k9
  have : (u2 n).data.toList = Lib.itoa n := by simp [u2]
  rw [this, qb6 h0 h1]
structure NumOf (s : ByteArray) (n : Int) : Prop where
  lo : -9223372036854775808 ≤ n
  hi : n ≤ 9223372036854775807
  eq : u2 n = s
theorem NumOf.uniq {s : ByteArray} {n m : Int} (h : NumOf s n) (k : NumOf s m) : n = m := by
  have e1 := jK h.lo h.hi
  have e2 := jK k.lo k.hi
  rw [h.eq] at e1
  rw [k.eq] at e2
  exact congrArg Prod.fst (e1.symm.trans e2)
open Classical in
noncomputable def s4 (s : ByteArray) : Int × Bool := if h : ∃ n, NumOf s n then (h.choose, true) else (0, false)
theorem aJ {s : ByteArray} {n : Int} (h : NumOf s n) : s4 s = (n, true) := by
  have hx : ∃ n, NumOf s n := ⟨n, h⟩
  unfold s4
  rw [dif_pos hx, hx.choose_spec.uniq h]
theorem aC {s : ByteArray} (h : ∀ n, ¬ NumOf s n) : s4 s = (0, false) := by
  unfold s4
  rw [dif_neg (fun ⟨n, hn⟩ => h n hn)]
theorem bJ {n : Int} (h0 : -9223372036854775808 ≤ n) (h1 : n ≤ 9223372036854775807) : s4 (u2 n) = (n, true) := aJ ⟨h0, h1, rfl⟩
theorem kK (s : ByteArray) : -9223372036854775808 ≤ (k9 s).1 ∧ (k9 s).1 ≤ 9223372036854775807 := by
  unfold k9
  split
  · rename_i v e; exact Lib.atoiAll_bounds e
  · exact Lib.atoiSat_bounds _
  · simp
theorem vR {s : ByteArray} (h : (k9 s).2 = true) : s4 s = (0, false) :=
  aC fun n hn => by
    have e := jK hn.lo hn.hi
    rw [hn.eq] at e
    rw [e] at h
    cases h
theorem uR {s : ByteArray} (h : u2 (k9 s).1 ≠ s) : s4 s = (0, false) :=
  aC fun n hn => by
    have e := jK hn.lo hn.hi
    rw [hn.eq] at e
    rw [e] at h
    exact h hn.eq
theorem wR {s : ByteArray} (h : u2 (k9 s).1 = s) : s4 s = ((k9 s).1, true) := aJ ⟨(kK s).1, (kK s).2, h⟩
end Vg
