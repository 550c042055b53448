/- Counters written into slices of slices: contract. Condition: lists are no longer than the law lets through. -/
import Derived.Test.YtahdmongckgjcaaGreatDoorTrees
namespace Vg
open Go Go.Proofs
theorem mcI {P : Program} {g : Nat} {vs : List AV} {bs : List Blk} {k : Nat} {Q : (AV → List Blk → Prop) → Prop} (h : ∃ R, CallsG P g vs bs k R ∧ Q R) : ∃ R, CallsG P g vs bs k R ∧ Q R := h
def lenTo (l : List (List Int)) (i : Nat) : Nat := ((l.take i).map List.length).sum
def mkII (k : Int) (l : List (List Int)) (n : Nat) : List (List Int) := (List.range n).map fun i => mkI (k + (lenTo l i : Nat)) (l.getD i []).length
theorem mkII_len (k : Int) (l : List (List Int)) (n : Nat) : (mkII k l n).length = n := by simp [mkII]
theorem mkII_mid {k : Int} {l : List (List Int)} {i : Nat} (d : List Int) : (mkII k l i ++ l.drop i).getD i d = l.getD i d := by
  rw [List.getD_eq_getElem?_getD, List.getElem?_append_right (by rw [mkII_len]; exact Nat.le_refl i), mkII_len, Nat.sub_self, List.getElem?_drop, Nat.add_zero, ← List.getD_eq_getElem?_getD]
theorem lt_of_midII {k : Int} {l : List (List Int)} {i : Nat} (h : (i : Int) < ((mkII k l i ++ l.drop i).length : Nat)) : (i : Int) < l.length := by
  simp only [mkII_len, List.length_append, List.length_drop] at h; omega
theorem lenTo_step {l : List (List Int)} {i : Nat} (h : (i : Int) < l.length) : lenTo l (i + 1) = lenTo l i + (l.getD i []).length := sum_step h
theorem lenTo_le (l : List (List Int)) (i : Nat) : lenTo l i ≤ totSS l := by have := sum_le (a := l) i; unfold lenTo totSS; omega
theorem mkII_step {k : Int} {l : List (List Int)} {i : Nat} (h : (i : Int) < l.length) : (mkII k l i ++ l.drop i).set i (mkI (k + (lenTo l i : Nat)) ((mkII k l i ++ l.drop i).getD i []).length) = mkII k l (i + 1) ++ l.drop (i + 1) := by
  have h' : i < l.length := by omega
  rw [mkII_mid, List.set_append_right _ _ (by simp [mkII])]
  simp only [mkII, List.length_map, List.length_range, Nat.sub_self, List.drop_eq_getElem_cons h', List.set_cons_zero, List.range_succ, List.map_append, List.map_cons, List.map_nil, List.append_assoc, List.cons_append, List.nil_append]
theorem mkII_end {k : Int} {l : List (List Int)} {i : Nat} (h : ¬ (i : Int) < ((mkII k l i ++ l.drop i).length : Nat)) (hi : i ≤ l.length) : mkII k l i ++ l.drop i = mkII k l l.length := by
  simp only [mkII_len, List.length_append, List.length_drop] at h
  have : i = l.length := by omega
  subst this; simp
theorem lenTo_end {k : Int} {l : List (List Int)} {i : Nat} (h : ¬ (i : Int) < ((mkII k l i ++ l.drop i).length : Nat)) (hi : i ≤ l.length) : lenTo l i = lenTo l l.length := by
  simp only [mkII_len, List.length_append, List.length_drop] at h
  rw [show i = l.length from by omega]
theorem mkII_cnt {k : Int} {l : List (List Int)} {i : Nat} (h : (i : Int) < l.length) : k + (lenTo l (i + 1) : Nat) = k + (lenTo l i : Nat) + (((mkII k l i ++ l.drop i).getD i []).length : Nat) := by
  rw [mkII_mid, lenTo_step h]; omega
theorem mkII_short {k : Int} {l : List (List Int)} {i : Nat} (h : (i : Int) < l.length) (hl : totSS l ≤ 1048576) : ((mkII k l i ++ l.drop i).getD i []).length ≤ 4194304 := by
  rw [mkII_mid]; have h1 := len_le h; unfold totSS at hl; omega
end Vg
