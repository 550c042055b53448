/- The path of a test, step by step: plain law behind pathFor and PathFor. No condition. -/
import Derived.Test.YtfhkodimclmcdaaGreatDoorEvI
import Derived.Test.YtfhkodimclmcdaaGreatDoorPathW
import Derived.Test.YtfhkodimclmcdaaGreatDoorPathX
namespace Vg
open Go Go.Proofs
noncomputable def pathI (p : V.Prog) (s0 : V.Path) (f : Nat) (x : List Int) : V.Path := forF p (j2 x) f s0
theorem qbu {t u : V.Term} {n : Nat} (h : u ∈ List.replicate n t) : u = t := (List.mem_replicate.1 h).2
theorem mP {p : V.Prog} (hp : i4 p = true) : PX p (s7 p) := by
  have q := (qt_tq hp).c 0 (zero_word (progP_w hp))
  exact ⟨qpc hp,⟨fun t ht=>(qbu ht) ▸ q,fun t ht=>(qbu ht) ▸ q,(fun t ht=>nomatch ht),(fun t ht=>nomatch ht)⟩,⟨by show (0 : Int) <= 0 /\ (0 : Int) <= 9;decide,fun x hx=>nomatch hx⟩⟩
structure PfI (p : V.Prog) (x : List Int) (fuel : Int) (q : Nat × V.Path) : Prop where
  kf : (q.1 : Int) <= fuel
  hl : InOk p x
  hx : PX p q.2
  hc : o7 (j2 x) q.2 = true
  eq : pathI p (s7 p) fuel.toNat x = forF p (j2 x) (fuel.toNat - q.1) q.2
section
variable {p : V.Prog} {x : List Int} {fuel : Int} {k : Nat} {s : V.Path}
end
theorem frN {B : List Blk} {L : List Nat} {a b : Int} (h : a = b) : frzM B (.dat (.i a)) (AV.numM L (.dat (.int .i64 b))) := by rw [h];exact rfl
/-! ### words of terms -/
theorem evTs_s {σ : ByteArray -> Int} {l : List V.Term} {k : Nat} (h : (k : Int) < l.length) : y6 σ (l.take (k + 1)) = y6 σ (l.take k) ++ [evT σ (kAt l k)] := by
  have hk : k < l.length := by omega
  have e : ∀ a b : List V.Term,y6 σ (a ++ b) = y6 σ a ++ y6 σ b := by
    intro a b
    induction a with
    | nil=>rw [y6];rfl
    | cons x a ih=>rw [List.cons_append,y6,y6,ih];rfl
  rw [List.take_add_one,List.getElem?_eq_getElem hk,e]
  show y6 σ (l.take k) ++ y6 σ [l[k]] = _
  rw [y6,y6,kAt,List.getD_eq_getElem?_getD,List.getElem?_eq_getElem hk];rfl
theorem rX {σ : ByteArray -> Int} {l : List V.Term} {k : Nat} (h : k <= l.length) : (y6 σ (l.take k)).length = k := by rw [sX,List.length_take];omega
section
variable {L : List V.Val} {σ : ByteArray -> Int} {t : V.Term}
end
structure VsOk (L : List V.Val) (σ : ByteArray -> Int) (l : List V.Term) : Prop where
  ok : ∀ t,t ∈ l -> okT t = true
  v : ∀ t,t ∈ l -> VOk L σ t
section
variable {L : List V.Val} {σ : ByteArray -> Int} {l : List V.Term} {k : Nat}
theorem VsOk.o (h : VsOk L σ l) (hk : (k : Int) < l.length) : okT (l.getD (k : Int).toNat K.terms.dflt) = true := by
  rw [Int.toNat_natCast];exact gD (P := fun t=>okT t = true) h.ok omG
theorem VsOk.w (h : VsOk L σ l) (hk : (k : Int) < l.length) : VOk L σ (l.getD (k : Int).toNat K.terms.dflt) := by
  rw [Int.toNat_natCast];exact gD (P := VOk L σ) h.v omG
end
end Vg
