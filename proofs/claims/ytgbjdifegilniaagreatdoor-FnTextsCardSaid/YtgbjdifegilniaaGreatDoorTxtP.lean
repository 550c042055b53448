/- What both readers of terms answer: the term whose text it is (plain law of FnExactParseTerm). No condition. -/
import Derived.Test.YtgbjdifegilniaaGreatDoorTxtS
namespace Vg
open Go Go.Proofs
structure TxOf (s : Bs) (t : V.Term) : Prop where
  ok : o8 t = true
  eq : fmtL t = s
theorem iK {t : V.Term} (h : o8 t = true) : okT t = true ∧ sizeT t ≤ 240 := by
  unfold o8 at h
  rw [Bool.and_eq_true, Bool.and_eq_true, decide_eq_true_eq] at h
  exact ⟨h.1.2, h.1.1⟩
theorem TxOf.read {s : Bs} {t : V.Term} (h : TxOf s t) : m0 240 0 s = ((t, true), sizeT t, []) := by
  obtain ⟨h1, h2⟩ := iK h.ok
  have q := pS 240 t 0 [] h2 h1 (.inl rfl) omG
  rw [List.append_nil, h.eq, Nat.zero_add] at q
  exact q
theorem TxOf.uniq {s : Bs} {t u : V.Term} (h : TxOf s t) (k : TxOf s u) : t = u := by
  have e := h.read.symm.trans k.read
  injection e with e1 _
  injection e1
noncomputable def w6 (s : Bs) : V.Term × Bool := open Classical in if h : ∃ t, TxOf s t then (h.choose, true) else (w5, false)
theorem prs_y {s : Bs} {t : V.Term} (h : TxOf s t) : w6 s = (t, true) := by
  have hx : ∃ t, TxOf s t := ⟨t, h⟩
  unfold w6
  rw [dif_pos hx, hx.choose_spec.uniq h]
theorem prs_n {s : Bs} (h : ∀ t, ¬ TxOf s t) : w6 s = (w5, false) := by
  unfold w6
  rw [dif_neg (fun ⟨t, k⟩ => h t k)]
theorem prs_I (s : Bs) : w6 s = if (m0 240 0 s).1.2 = true ∧ (m0 240 0 s).2.2 = [] ∧ o8 (m0 240 0 s).1.1 = true ∧ fmtL (m0 240 0 s).1.1 = s then ((m0 240 0 s).1.1, true) else (w5, false) := by
  split
  · next h => exact prs_y ⟨h.2.2.1, h.2.2.2⟩
  · next h =>
    refine prs_n fun t k => h ?_
    rw [k.read]
    exact ⟨rfl, rfl, k.ok, k.eq⟩
/-! ### texts of good terms are short -/
theorem tG {n : Int} (h0 : 0 ≤ n) (h1 : n ≤ 65535) : (u4 n).length ≤ 5 := by
  show (Lib.itoa n).toArray.toList.length ≤ 5
  unfold Lib.itoa
  rw [if_neg omG]
  exact fH 4 n.toNat omG
theorem kO {op : Int} (h1 : 1 ≤ op) (h2 : op ≤ 21) : (j8 op).length ≤ 7 := by
  have h : ∀ k : Nat, k < 21 → (opNs.getD k []).length ≤ 7 := by decide
  exact h _ omG
mutual
theorem hZ : ∀ (t : V.Term), okT t = true → (fmtL t).length + 1 ≤ 40 * sizeT t
  | ⟨op, w, n, nm, ks⟩, h => by
    have hi : (1 ≤ w ∧ w ≤ 16) ∧ (0 ≤ n ∧ n ≤ 65535) := tI h
    have ho : 0 ≤ op ∧ op ≤ 22 := cL h
    have l1 := tG hi.2.1 hi.2.2
    have l2 := tG (n := w) omG omG
    rw [fmtL, sizeT]
    by_cases c0 : op = 0
    · rw [if_pos c0]
      simp only [List.length_append, List.length_cons]
      omega
    · rw [if_neg c0]
      by_cases c22 : op = 22
      · rw [if_pos c22]
        have hname : isNameP nm = true := pO h c22
        have hs : nm.data.toList.length ≤ 8 := by
          unfold isNameP at hname
          rw [Bool.and_eq_true] at hname
          have := (y9.1 hname.1).2
          show nm.size ≤ 8
          omega
        simp only [List.length_append, List.length_cons]
        omega
      · rw [if_neg c22]
        have l3 := kO (op := op) omG omG
        have l4 := dQ ks (sI h)
        have l5 : (if op = 19 then 32 :: u4 n else []).length ≤ 6 := by
          split
          · rw [List.length_cons]; omega
          · exact Nat.zero_le _
        have l6 : (if 19 ≤ op ∧ op ≤ 21 then 32 :: u4 w else []).length ≤ 6 := by
          split
          · rw [List.length_cons]; omega
          · exact Nat.zero_le _
        simp only [List.length_append, List.length_cons, List.length_nil]
        omega
theorem dQ : ∀ (ks : List V.Term), okTs ks = true → (j4 ks).length ≤ 40 * d5 ks
  | [], _ => Nat.zero_le _
  | t :: ts, h => by
    rw [okTs, Bool.and_eq_true] at h
    have l1 := hZ t h.1
    have l2 := dQ ts h.2
    rw [j4, d5]
    simp only [List.length_append, List.length_cons]
    omega
end
end Vg
