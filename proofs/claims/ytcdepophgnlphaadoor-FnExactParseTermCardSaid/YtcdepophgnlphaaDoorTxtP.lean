/- What both readers of terms answer: the term whose text it is (plain law of FnExactParseTerm). No condition. -/
import Derived.Test.YtcdepophgnlphaaDoorTxtS
namespace Vg
open Go Go.Proofs
structure TxOf (s : Bs) (t : V.Term) : Prop where
  ok : d7 t = true
  eq : fmtL t = s
theorem tC {t : V.Term} (h : d7 t = true) : okT t = true ∧ sizeT t ≤ 240 := by
  unfold d7 at h
  rw [Bool.and_eq_true, Bool.and_eq_true, decide_eq_true_eq] at h
  exact ⟨h.1.2, h.1.1⟩
theorem TxOf.read {s : Bs} {t : V.Term} (h : TxOf s t) : o0 240 0 s = ((t, true), sizeT t, []) := by
  obtain ⟨h1, h2⟩ := tC h.ok
  have q := xP 240 t 0 [] h2 h1 (.inl rfl) omG
  rw [List.append_nil, h.eq, Nat.zero_add] at q
  exact q
theorem TxOf.readS {s : Bs} {t : V.Term} (h : TxOf s t) : termS 240 (some (u4 [] s)) = (t, some []) := by
  obtain ⟨h1, h2⟩ := tC h.ok
  have q := kQ t [] h1 (.inl rfl)
  rw [List.append_nil, h.eq] at q
  have q2 := wP 240 t [] h2 h1
  rw [q]
  exact q2
theorem TxOf.uniq {s : Bs} {t u : V.Term} (h : TxOf s t) (k : TxOf s u) : t = u := by
  have e := h.read.symm.trans k.read
  injection e with e1 _
  injection e1
noncomputable def prsT (s : Bs) : V.Term × Bool := open Classical in if h : ∃ t, TxOf s t then (h.choose, true) else (r4, false)
theorem prs_y {s : Bs} {t : V.Term} (h : TxOf s t) : prsT s = (t, true) := by
  have hx : ∃ t, TxOf s t := ⟨t, h⟩
  unfold prsT
  rw [dif_pos hx, hx.choose_spec.uniq h]
theorem prs_n {s : Bs} (h : ∀ t, ¬ TxOf s t) : prsT s = (r4, false) := by
  unfold prsT
  rw [dif_neg (fun ⟨t, k⟩ => h t k)]
theorem prs_I (s : Bs) : prsT s = if (o0 240 0 s).1.2 = true ∧ (o0 240 0 s).2.2 = [] ∧ d7 (o0 240 0 s).1.1 = true ∧ fmtL (o0 240 0 s).1.1 = s then ((o0 240 0 s).1.1, true) else (r4, false) := by
  split
  · next h => exact prs_y ⟨h.2.2.1, h.2.2.2⟩
  · next h =>
    refine prs_n fun t k => h ?_
    rw [k.read]
    exact ⟨rfl, rfl, k.ok, k.eq⟩
/-! ### texts of good terms are short -/
theorem rE {n : Int} (h0 : 0 ≤ n) (h1 : n ≤ 65535) : (r0 n).length ≤ 5 := by
  show (Lib.itoa n).toArray.toList.length ≤ 5
  unfold Lib.itoa
  rw [if_neg omG]
  exact sH 4 n.toNat omG
theorem zL {op : Int} (h1 : 1 ≤ op) (h2 : op ≤ 21) : (n8 op).length ≤ 7 := by
  have h : ∀ k : Nat, k < 21 → (opNs.getD k []).length ≤ 7 := by decide
  exact h _ omG
mutual
theorem pN : ∀ (t : V.Term), okT t = true → (fmtL t).length + 1 ≤ 40 * sizeT t
  | ⟨op, w, n, nm, ks⟩, h => by
    have hi : (1 ≤ w ∧ w ≤ 16) ∧ (0 ≤ n ∧ n ≤ 65535) := cC h
    have ho : 0 ≤ op ∧ op ≤ 22 := cD h
    have l1 := rE hi.2.1 hi.2.2
    have l2 := rE (n := w) omG omG
    rw [fmtL, sizeT]
    by_cases c0 : op = 0
    · rw [if_pos c0]
      simp only [List.length_append, List.length_cons]
      omega
    · rw [if_neg c0]
      by_cases c22 : op = 22
      · rw [if_pos c22]
        have hname : isNameP nm = true := mG h c22
        have hs : nm.data.toList.length ≤ 8 := by
          unfold isNameP at hname
          rw [Bool.and_eq_true] at hname
          have := (w7.1 hname.1).2
          show nm.size ≤ 8
          omega
        simp only [List.length_append, List.length_cons]
        omega
      · rw [if_neg c22]
        have l3 := zL (op := op) omG omG
        have l4 := nN ks (lB h)
        have l5 : (if op = 19 then 32 :: r0 n else []).length ≤ 6 := by
          split
          · rw [List.length_cons]; omega
          · exact Nat.zero_le _
        have l6 : (if 19 ≤ op ∧ op ≤ 21 then 32 :: r0 w else []).length ≤ 6 := by
          split
          · rw [List.length_cons]; omega
          · exact Nat.zero_le _
        simp only [List.length_append, List.length_cons, List.length_nil]
        omega
theorem nN : ∀ (ks : List V.Term), okTs ks = true → (z1 ks).length ≤ 40 * d3 ks
  | [], _ => Nat.zero_le _
  | t :: ts, h => by
    rw [okTs, Bool.and_eq_true] at h
    have l1 := pN t h.1
    have l2 := nN ts h.2
    rw [z1, d3]
    simp only [List.length_append, List.length_cons]
    omega
end
theorem prs_S (s : Bs) : prsT s = if s.length ≤ 9600 ∧ (termS 240 (some (u4 [] s))).2 = some [] ∧ d7 (termS 240 (some (u4 [] s))).1 = true ∧ fmtL (termS 240 (some (u4 [] s))).1 = s then ((termS 240 (some (u4 [] s))).1, true) else (r4, false) := by
  split
  · next h => exact prs_y ⟨h.2.2.1, h.2.2.2⟩
  · next h =>
    refine prs_n fun t k => h ?_
    rw [k.readS]
    obtain ⟨h1, h2⟩ := tC k.ok
    have := pN t h1
    rw [k.eq] at this
    exact ⟨by omega, rfl, k.ok, k.eq⟩
end Vg
