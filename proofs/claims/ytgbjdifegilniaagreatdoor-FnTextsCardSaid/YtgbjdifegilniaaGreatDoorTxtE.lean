/- The reference's reader of terms: contracts of its small steps. Condition: texts are not too long. -/
import Derived.Test.YtgbjdifegilniaaGreatDoorTxtC
import Derived.Test.YtgbjdifegilniaaGreatDoorPoolL
namespace Vg
open Go Go.Proofs
/-! ### names of operations -/
def x7 (op : Int) : ByteArray := r0 (j8 op)
/-! ### the reader's box -/
structure SufW (ws : List ByteArray) (st : Wds) : Prop where
  suf : ∀ r, st = some r → r <:+ ws.map (·.data.toList)
  len : ws.length ≤ 2097153
  sz : ∀ x ∈ ws, x.size ≤ 1048576
section
variable {ws : List ByteArray} {st : Wds}
theorem SufW.le {r : List Bs} (h : SufW ws (some r)) : r.length ≤ ws.length := by
  have := (h.suf r rfl).length_le
  rwa [List.length_map] at this
theorem SufW.nx (h : SufW ws st) : SufW ws (nxR st).2 := by
  match st, h with
  | some (x :: l), h => exact ⟨fun r e => by injection e with e; subst e; exact (List.suffix_cons x l).trans (h.suf _ rfl), h.len, h.sz⟩
  | some [], h => exact ⟨fun _ e => (nomatch e), h.len, h.sz⟩
  | none, h => exact ⟨fun _ e => (nomatch e), h.len, h.sz⟩
end
section
variable {ws : List ByteArray} {st : Wds}
end
theorem SufW.int {ws : List ByteArray} {st : Wds} (h : SufW ws st) : SufW ws (intS st).2 := by
  show SufW ws (if (s9 (nxR st).1).2 = true then (nxR st).2 else none)
  split
  · exact h.nx
  · exact ⟨fun _ e => (nomatch e), h.len, h.sz⟩
structure LfI (s : ByteArray) (i : Nat) : Prop where
  le : i ≤ s.size
  no : 58 ∉ s.data.toList.take i
theorem LfI.zero (s : ByteArray) : LfI s 0 := ⟨Nat.zero_le _, by simp⟩
section
variable {s : ByteArray} {i : Nat}
theorem LfI.next (hi : LfI s i) (h : (i : Int) < s.size) (hc : ¬ ((s.data.toList.getD (i : Int).toNat 0).toNat : Int) = 58) : LfI s (i + 1) := by
  rw [Int.toNat_natCast] at hc
  have hl : s.data.toList.length = s.size := rfl
  have h' : i < s.data.toList.length := by omega
  refine ⟨by omega, fun hm => ?_⟩
  rw [List.take_succ_eq_append_getElem h', List.mem_append] at hm
  rcases hm with hm | hm
  · exact hi.no hm
  · rw [List.mem_singleton] at hm
    rw [List.getD_eq_getElem?_getD, List.getElem?_eq_getElem h', ← hm] at hc
    exact hc rfl
end
theorem mkA (a b : Bs) : r0 a ++ r0 b = r0 (a ++ b) := ByteArray.ext (Array.ext' (by rw [ByteArray.data_append, Array.toList_append]; rfl))
theorem mkC1 (s : ByteArray) (b : Bs) : s ++ r0 b = r0 (s.data.toList ++ b) := mkA s.data.toList b
def hdL (op w n : Int) : Bs := 40 :: (j8 op ++ ((if op = 19 then 32 :: u4 n else []) ++ (if 19 ≤ op ∧ op ≤ 21 then 32 :: u4 w else [])))
theorem fmt_c {t : V.Term} (h : t.op = 0) : fmtL t = u4 t.w ++ 58 :: u4 t.n := by cases t; rw [fmtL]; exact if_pos h
theorem fmt_v {t : V.Term} (h : t.op = 22) : fmtL t = t.name.data.toList ++ 58 :: u4 t.w := by cases t; rw [fmtL]; dsimp only at h; rw [if_neg omG, if_pos h]
theorem fmt_n {t : V.Term} (h0 : ¬ t.op = 0) (h1 : ¬ t.op = 22) : fmtL t = hdL t.op t.w t.n ++ j4 t.kids ++ [41] := by
  cases t; rw [fmtL]; dsimp only at h0 h1; rw [if_neg h0, if_neg h1]; unfold hdL
  simp only [List.cons_append, List.append_assoc]
theorem itB (n : Int) : s1 n = r0 (u4 n) := rfl
theorem chB (c : UInt8) : ({ data := #[c] } : ByteArray) = r0 [c] := rfl
theorem fs_c {t : V.Term} (h : t.op = 0) : r0 (fmtL t) = s1 t.w ++ { data := #[58] } ++ s1 t.n := by
  rw [fmt_c h, itB, itB, chB]; simp only [mkA, List.append_assoc, List.cons_append, List.nil_append]
theorem fs_v {t : V.Term} (h : t.op = 22) : r0 (fmtL t) = t.name ++ { data := #[58] } ++ s1 t.w := by
  rw [fmt_v h, itB, chB, mkC1 t.name, mkA, List.append_assoc]; rfl
section
variable {op w n : Int}
theorem hd_1 (h : op = 19) (h2 : inP op 19 21 = true) : r0 (hdL op w n) = { data := #[40] } ++ x7 op ++ { data := #[32] } ++ s1 n ++ { data := #[32] } ++ s1 w := by
  have h2' := y9.1 h2
  unfold hdL x7
  rw [if_pos h, if_pos h2', itB, itB, chB, chB]
  simp only [mkA, List.append_assoc, List.cons_append, List.nil_append]
theorem hd_2 (h : ¬ op = 19) (h2 : inP op 19 21 = true) : r0 (hdL op w n) = { data := #[40] } ++ x7 op ++ { data := #[32] } ++ s1 w := by
  have h2' := y9.1 h2
  unfold hdL x7
  rw [if_neg h, if_pos h2', itB, chB, chB]
  simp only [mkA, List.append_assoc, List.cons_append, List.nil_append]
theorem hd_3 (h : ¬ op = 19) (h2 : inP op 19 21 = false) : r0 (hdL op w n) = { data := #[40] } ++ x7 op := by
  have h2' : ¬ (19 ≤ op ∧ op ≤ 21) := fun q => by rw [y9.2 q] at h2; cases h2
  unfold hdL x7
  rw [if_neg h, if_neg h2', chB]
  simp only [mkA, List.cons_append, List.nil_append, List.append_nil]
end
theorem eQ : ∀ (a b : List V.Term), j4 (a ++ b) = j4 a ++ j4 b
  | [], b => by rw [j4]; rfl
  | t :: a, b => by rw [List.cons_append, j4, j4, eQ a b]; simp only [List.cons_append, List.append_assoc]
theorem qep {ks : List V.Term} {i : Nat} (h : (i : Int) < ks.length) : j4 (ks.take (i + 1)) = j4 (ks.take i) ++ 32 :: fmtL (ks.getD (i : Int).toNat K.terms.dflt) := by
  rw [tk_succ h, eQ, j4, j4, List.append_nil, Int.toNat_natCast]
theorem fs_step {b : Bs} {ks : List V.Term} {i : Nat} (h : (i : Int) < ks.length) : r0 (b ++ j4 (ks.take (i + 1))) = r0 (b ++ j4 (ks.take i)) ++ { data := #[32] } ++ r0 (fmtL ⟨(ks.getD (i : Int).toNat K.terms.dflt).op, (ks.getD (i : Int).toNat K.terms.dflt).w, (ks.getD (i : Int).toNat K.terms.dflt).n, (ks.getD (i : Int).toNat K.terms.dflt).name, (ks.getD (i : Int).toNat K.terms.dflt).kids⟩) := by
  rw [V.Term.eta, qep h, chB]
  simp only [mkA, List.append_assoc, List.cons_append, List.nil_append]
theorem fs_end {t : V.Term} {i : Nat} (h0 : ¬ t.op = 0) (h1 : ¬ t.op = 22) (h : ¬ (i : Int) < t.kids.length) : r0 (fmtL t) = r0 (hdL t.op t.w t.n ++ j4 (t.kids.take i)) ++ { data := #[41] } := by
  rw [fmt_n h0 h1, chB, mkA, List.take_of_length_le omG]
/-! ### lengths -/
theorem lW (a : Bs) : (r0 a).size = a.length := rfl
theorem y8 (a b : ByteArray) : (a ++ b).size = a.size + b.size := ByteArray.size_append
structure FmB (t : V.Term) : Prop where
  w : (s1 t.w).size ≤ 6
  n : (s1 t.n).size ≤ 6
  nm : t.op = 22 → t.name.size ≤ 8
  w0 : 0 ≤ t.w ∧ t.w < 1000000
  n0 : 0 ≤ t.n ∧ t.n < 1000000
  all : (fmtL t).length ≤ 9600
theorem fmB {t : V.Term} (hk : okT t = true) (hz : sizeT t ≤ 240) : FmB t := by
  have hi := tI hk
  have h1 := tG (n := t.w) omG omG
  have h2 := tG (n := t.n) omG omG
  refine ⟨Nat.le_succ_of_le h1, Nat.le_succ_of_le h2, fun h => ?_, by omega, by omega, ?_⟩
  · have hn := pO hk h
    unfold isNameP at hn
    rw [Bool.and_eq_true] at hn
    have := (y9.1 hn.1).2
    omega
  · have := hZ t hk
    omega
theorem aL {op : Int} (h1 : 1 ≤ op) (h2 : op ≤ 21) : (x7 op).size ≤ 7 := kO h1 h2
theorem qY {t : V.Term} {i : Nat} (h0 : ¬ t.op = 0) (h1 : ¬ t.op = 22) (hb : FmB t) : (hdL t.op t.w t.n ++ j4 (t.kids.take i)).length ≤ 9600 := by
  have h := hb.all
  rw [fmt_n h0 h1] at h
  have e : (j4 t.kids).length = (j4 (t.kids.take i)).length + (j4 (t.kids.drop i)).length := by
    conv => lhs; rw [← List.take_append_drop i t.kids, eQ, List.length_append]
  simp only [List.length_append, List.length_cons, List.length_nil] at h ⊢
  omega
end Vg
