/- Terms are made simple: contracts of the program's functions. Condition: the term is good. -/
import Derived.Test.YtgbjdifegilniaaGreatDoorTermV
import Derived.Test.YtgbjdifegilniaaGreatDoorRg
namespace Vg
open Go Go.Proofs
structure Fr (p : Prop) : Prop where
  h : p
theorem frG {B : List Blk} {y : Int} {x : AV} {l' l : List AV} (h : Fr (xD B (.dat (.i y)) x ∧ zG B l' l)) : xD B (.dat (.i y)) x ∧ zG B l' l := h.h
theorem fr5n {B : List Blk} {L : List Nat} {t : V.Term} {o w n : Int} {nm : ByteArray} (h : t = ⟨o, w, n, nm, []⟩) :
    xD B (.dat (.i t.op)) (AV.numC L (.dat (.int .i64 o))) ∧ zG B [.dat (.i t.w), .dat (.i t.n), .dat (.str t.name), .dat (.seq .terms t.kids)] [AV.numC L (.dat (.int .i64 w)), AV.numC L (.dat (.int .i64 n)), AV.numC L (.dat (.str nm)), AV.numC L .nils] := by
  subst h
  exact ⟨rfl, rfl, rfl, rfl, rfl, True.intro⟩
section
variable {t : V.Term}
end
section
variable {t x : V.Term} {b : Bool}
end
end Vg
