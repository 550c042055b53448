/- Marks: contracts of the law's helpers that write counters into memory and look for them. Condition: counters stay small. -/
import Derived.Test.YtcdepophgnlphaaDoorBase
import Derived.Test.YtcdepophgnlphaaDoorTermI
namespace Vg
open Go Go.Proofs
theorem wr {k : Int} (h0 : 0 ≤ k) (h1 : k ≤ 2199023255552) : IntKind.i64.wrap (k + 1) = k + 1 := g4 omG omG
theorem uI {α : Type} {l : List α} {i : Nat} {a d : α} (h : i < l.length) : (l.set i a).getD i d = a := by
  simp [List.getD_eq_getElem?_getD, h]
theorem mkw1 {k : Int} {i n : Nat} (h0 : 0 ≤ k) (h1 : k ≤ 1099511627776) (hi : i ≤ n) (hn : n ≤ 4194304) : IntKind.i64.wrap (k + 4 * (i : Nat) + 1) = k + 4 * (i : Nat) + 1 := wr omG omG
theorem w2 {k : Int} {i n : Nat} (h0 : 0 ≤ k) (h1 : k ≤ 1099511627776) (hi : i ≤ n) (hn : n ≤ 4194304) : IntKind.i64.wrap (IntKind.i64.wrap (k + 4 * (i : Nat) + 1) + 1) = k + 4 * (i : Nat) + 1 + 1 := by rw [mkw1 h0 h1 hi hn]; exact wr omG omG
theorem w3 {k : Int} {i n : Nat} (h0 : 0 ≤ k) (h1 : k ≤ 1099511627776) (hi : i ≤ n) (hn : n ≤ 4194304) : IntKind.i64.wrap (IntKind.i64.wrap (IntKind.i64.wrap (k + 4 * (i : Nat) + 1) + 1) + 1) = k + 4 * (i : Nat) + 1 + 1 + 1 := by rw [w2 h0 h1 hi hn]; exact wr omG omG
theorem w4 {k : Int} {i n : Nat} (h0 : 0 ≤ k) (h1 : k ≤ 1099511627776) (hi : i ≤ n) (hn : n ≤ 4194304) : IntKind.i64.wrap (IntKind.i64.wrap (IntKind.i64.wrap (IntKind.i64.wrap (k + 4 * (i : Nat) + 1) + 1) + 1) + 1) = k + 4 * ((i + 1 : Nat) : Int) := by rw [w3 h0 h1 hi hn, wr omG omG]; omega
theorem hY {T : Nat} {κ : K} {l l' : List κ.T} (h : l = l') : [Blk.tree T κ l] = [Blk.tree T κ l'] := by rw [h]
theorem mcI {P : Program} {g : Nat} {vs : List AV} {bs : List Blk} {k : Nat} {Q : (AV → List Blk → Prop) → Prop} (h : ∃ R, CallsG P g vs bs k R ∧ Q R) : ∃ R, CallsG P g vs bs k R ∧ Q R := h
def w9 : Nat → Nat → ByteArray → ByteArray
  | 0, _, s => s
  | f + 1, k, s => if k = 0 then s else w9 f (k / 10) (⟨#[(48 + k % 10).toUInt8]⟩ ++ s)
def s9 (k : Int) : ByteArray := if k ≤ 0 then ⟨#[109, 48]⟩ else ⟨#[109]⟩ ++ w9 (k.toNat + 1) k.toNat ByteArray.empty
theorem mGo_end (f : Nat) (s : ByteArray) : w9 f 0 s = s := by
  cases f with
  | zero => rfl
  | succ f => rw [w9, if_pos rfl]
theorem qap {f k : Nat} {s : ByteArray} (hk : 0 < k) (hf : k < f) : w9 f k s = w9 (f - 1) (k / 10) (⟨#[(48 + k % 10).toUInt8]⟩ ++ s) := by
  cases f with
  | zero => omega
  | succ f => rw [w9, if_neg omG]; rfl
mutual
def cntT : V.Term → Nat
  | ⟨_, _, _, _, ks⟩ => 4 + s1 ks
def s1 : List V.Term → Nat
  | [] => 0
  | t :: ts => cntT t + s1 ts
end
mutual
def mkT1 : V.Term → Int → V.Term
  | ⟨_, _, _, _, ks⟩, k => ⟨k, k + 1, k + 2, s9 (k + 3), x4 ks (k + 4)⟩
def x4 : List V.Term → Int → List V.Term
  | [], _ => []
  | t :: ts, k => mkT1 t k :: x4 ts (k + cntT t)
end
theorem fO (t : V.Term) : cntT t = 4 + s1 t.kids := by cases t; rw [cntT]
theorem xS (t : V.Term) (k : Int) : mkT1 t k = ⟨k, k + 1, k + 2, s9 (k + 3), x4 t.kids (k + 4)⟩ := by cases t; rw [mkT1]
theorem jE : ∀ (l : List V.Term) (k : Int), (x4 l k).length = l.length
  | [], _ => by rw [x4]
  | t :: ts, k => by rw [x4, List.length_cons, List.length_cons, jE ts]
theorem dO : ∀ (a b : List V.Term), s1 (a ++ b) = s1 a + s1 b
  | [], b => by rw [s1, List.nil_append, Nat.zero_add]
  | t :: a, b => by rw [List.cons_append, s1, s1, dO a b, Nat.add_assoc]
theorem wS : ∀ (a b : List V.Term) (k : Int), x4 (a ++ b) k = x4 a k ++ x4 b (k + s1 a)
  | [], b, k => by rw [x4, s1, List.nil_append, List.nil_append]; congr 1; omega
  | t :: a, b, k => by
    rw [List.cons_append, x4, x4, List.cons_append, wS a b, s1]
    congr 3
    push_cast
    omega
theorem bL {l : List V.Term} {i : Nat} (h : (i : Int) < l.length) : l.take (i + 1) = l.take i ++ [l.getD i K.terms.dflt] := by
  have h' : i < l.length := by omega
  rw [List.take_succ_eq_append_getElem h', List.getD_eq_getElem?_getD, List.getElem?_eq_getElem h']; rfl
theorem eO {l : List V.Term} {i : Nat} (h : (i : Int) < l.length) : s1 (l.take (i + 1)) = s1 (l.take i) + cntT (l.getD i K.terms.dflt) := by
  rw [bL h, dO, s1, s1, Nat.add_zero]
def y7 (k : Int) (l : List V.Term) (i : Nat) : List V.Term := x4 (l.take i) k ++ l.drop i
theorem tG {k : Int} {l : List V.Term} {i : Nat} (hi : i ≤ l.length) : (y7 k l i).length = l.length := by
  unfold y7
  rw [List.length_append, jE, List.length_take, List.length_drop]; omega
theorem qag {k : Int} {l : List V.Term} {i : Nat} (h : (i : Int) < l.length) : (y7 k l i).getD i K.terms.dflt = l.getD i K.terms.dflt := by
  unfold y7
  rw [List.getD_eq_getElem?_getD, List.getElem?_append_right (by rw [jE, List.length_take]; omega), jE, List.length_take, List.getElem?_drop, List.getD_eq_getElem?_getD]
  congr 2; omega
theorem qaf {k : Int} {l : List V.Term} {i : Nat} (h : (i : Int) < l.length) : (y7 k l i).set i (mkT1 (l.getD i K.terms.dflt) (k + s1 (l.take i))) = y7 k l (i + 1) := by
  have h' : i < l.length := by omega
  unfold y7
  rw [bL h, wS, x4, x4, List.set_append_right _ _ (by rw [jE, List.length_take]; omega), jE, List.length_take, show i - min i l.length = 0 by omega, List.drop_eq_getElem_cons h', List.set_cons_zero, List.append_assoc]
  rfl
theorem qah {k : Int} {l : List V.Term} {i : Nat} (h : ¬ (i : Int) < l.length) (hi : i ≤ l.length) : y7 k l i = x4 l k := by
  unfold y7
  rw [List.take_of_length_le omG, List.drop_eq_nil_of_le omG, List.append_nil]
/-! ### sizes -/
end Vg
