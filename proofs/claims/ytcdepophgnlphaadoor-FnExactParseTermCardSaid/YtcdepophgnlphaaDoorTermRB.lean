/- Terms are made simple: contracts of the program's functions. Condition: the term is good. -/
import Derived.Test.YtcdepophgnlphaaDoorTermV
import Derived.Test.YtcdepophgnlphaaDoorRg
namespace Vg
open Go Go.Proofs
def q8 (t : V.Term) : AV := .agg [.dat (.i t.op), .dat (.i t.w), .dat (.i t.n), .dat (.str t.name), .dat (.seq .terms t.kids)]
structure Fr (p : Prop) : Prop where
  h : p
theorem frG {B : List Blk} {y : Int} {x : AV} {l' l : List AV} (h : Fr (gC B (.dat (.i y)) x ∧ wE B l' l)) : gC B (.dat (.i y)) x ∧ wE B l' l := h.h
theorem fr5n {B : List Blk} {L : List Nat} {t : V.Term} {o w n : Int} {nm : ByteArray} (h : t = ⟨o, w, n, nm, []⟩) :
    gC B (.dat (.i t.op)) (AV.numC L (.dat (.int .i64 o))) ∧ wE B [.dat (.i t.w), .dat (.i t.n), .dat (.str t.name), .dat (.seq .terms t.kids)] [AV.numC L (.dat (.int .i64 w)), AV.numC L (.dat (.int .i64 n)), AV.numC L (.dat (.str nm)), AV.numC L .nils] := by
  subst h
  exact ⟨rfl, rfl, rfl, rfl, rfl, True.intro⟩
theorem fr5M {B : List Blk} {L : List Nat} {t : V.Term} {o w n : Int} {nm : ByteArray} {ks : List V.Term} (h : t = ⟨o, w, n, nm, ks⟩) :
    frzM B (q8 t) (AV.numM L (.agg [.dat (.int .i64 o), .dat (.int .i64 w), .dat (.int .i64 n), .dat (.str nm), .dat (.seq .terms ks)])) := by
  subst h
  exact ⟨rfl, rfl, rfl, rfl, rfl, True.intro⟩
theorem fr5Mn {B : List Blk} {L : List Nat} {t : V.Term} {o w n : Int} {nm : ByteArray} (h : t = ⟨o, w, n, nm, []⟩) :
    frzM B (q8 t) (AV.numM L (.agg [.dat (.int .i64 o), .dat (.int .i64 w), .dat (.int .i64 n), .dat (.str nm), .nils])) := by
  subst h
  exact ⟨rfl, rfl, rfl, rfl, rfl, True.intro⟩
section
variable {t : V.Term}
end
section
variable {t x : V.Term} {b : Bool}
end
end Vg
