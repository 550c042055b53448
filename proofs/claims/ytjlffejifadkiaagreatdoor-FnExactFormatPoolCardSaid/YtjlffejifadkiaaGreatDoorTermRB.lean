/- Terms are made simple: contracts of the program's functions. Condition: the term is good. -/
import Derived.Test.YtjlffejifadkiaaGreatDoorTermE
import Derived.Test.YtjlffejifadkiaaGreatDoorRg
namespace Vg
open Go Go.Proofs
set_option maxRecDepth 100000
set_option maxHeartbeats 40000000
def qbj (t : V.Term) : AV := .agg [.dat (.i t.op), .dat (.i t.w), .dat (.i t.n), .dat (.str t.name), .dat (.seq .terms t.kids)]
theorem st_eq {K : AX → AState → Prop} {n : Nat} {tm tm' : Nat → AV} {blk blk' : Nat → Option Blk} (key : K .normal ⟨n, tm, blk⟩) (h1 : ∀ j, tm j = tm' j) (h2 : ∀ j, blk j = blk' j) : K .normal ⟨n, tm', blk'⟩ := by
  rw [← funext h1, ← funext h2]; exact key
structure Fr (p : Prop) : Prop where
  h : p
theorem frG {B : List Blk} {y : Int} {x : AV} {l' l : List AV} (h : Fr (frzC B (.dat (.i y)) x ∧ frzL B l' l)) : frzC B (.dat (.i y)) x ∧ frzL B l' l := h.h
theorem fr5 {B : List Blk} {L : List Nat} {t : V.Term} {o w n : Int} {nm : ByteArray} {ks : List V.Term} (h : t = ⟨o, w, n, nm, ks⟩) :
    frzC B (.dat (.i t.op)) (AV.numC L (.dat (.int .i64 o))) ∧ frzL B [.dat (.i t.w), .dat (.i t.n), .dat (.str t.name), .dat (.seq .terms t.kids)] [AV.numC L (.dat (.int .i64 w)), AV.numC L (.dat (.int .i64 n)), AV.numC L (.dat (.str nm)), AV.numC L (.dat (.seq .terms ks))] := by
  subst h
  exact ⟨rfl, rfl, rfl, rfl, rfl, True.intro⟩
theorem fr5n {B : List Blk} {L : List Nat} {t : V.Term} {o w n : Int} {nm : ByteArray} (h : t = ⟨o, w, n, nm, []⟩) :
    frzC B (.dat (.i t.op)) (AV.numC L (.dat (.int .i64 o))) ∧ frzL B [.dat (.i t.w), .dat (.i t.n), .dat (.str t.name), .dat (.seq .terms t.kids)] [AV.numC L (.dat (.int .i64 w)), AV.numC L (.dat (.int .i64 n)), AV.numC L (.dat (.str nm)), AV.numC L .nils] := by
  subst h
  exact ⟨rfl, rfl, rfl, rfl, rfl, True.intro⟩
theorem fr5M {B : List Blk} {L : List Nat} {t : V.Term} {o w n : Int} {nm : ByteArray} {ks : List V.Term} (h : t = ⟨o, w, n, nm, ks⟩) :
    frzM B (qbj t) (AV.numM L (.agg [.dat (.int .i64 o), .dat (.int .i64 w), .dat (.int .i64 n), .dat (.str nm), .dat (.seq .terms ks)])) := by
  subst h
  exact ⟨rfl, rfl, rfl, rfl, rfl, True.intro⟩
theorem fr5Mn {B : List Blk} {L : List Nat} {t : V.Term} {o w n : Int} {nm : ByteArray} (h : t = ⟨o, w, n, nm, []⟩) :
    frzM B (qbj t) (AV.numM L (.agg [.dat (.int .i64 o), .dat (.int .i64 w), .dat (.int .i64 n), .dat (.str nm), .nils])) := by
  subst h
  exact ⟨rfl, rfl, rfl, rfl, rfl, True.intro⟩
theorem qal (op w n : Int) (nm : ByteArray) (ks : List V.Term) : CallsV Tryz.prog 135 [.agg [.dat (.i op), .dat (.i w), .dat (.i n), .dat (.str nm), .dat (.seq .terms ks)]] (.dat (.bool (op == 0))) := by
  refine oV Tryz.func135 ⟨?_⟩
  repeat' (first | ((with_reducible refine fun (K1 : KT) hK => ?_); refine stW ⟨?_⟩) | ((with_reducible show K1 _ _); subst hK; conv => whnf) | (with_reducible exact rfl) | refine st0 ⟨?_⟩ | ((with_reducible refine SplS.mk (fun h => ?_) (fun h => ?_)) <;> first | exact ctM | (subst h; conv => whnf) | (conv => whnf)) | (intro h; conv => whnf))
  all_goals repeat clear hK K1
  all_goals first | rfl | skip
theorem qao (op w n : Int) (nm : ByteArray) (ks : List V.Term) (m : Int) : CallsV Tryz.prog 132 [.agg [.dat (.i op), .dat (.i w), .dat (.i n), .dat (.str nm), .dat (.seq .terms ks)], .dat (.i m)] (.dat (.bool (decide (op = 0 ∧ n = m)))) := by
  refine oV Tryz.func132 ⟨?_⟩
  repeat' (first | ((with_reducible refine fun (K1 : KT) hK => ?_); refine stW ⟨?_⟩) | ((with_reducible show K1 _ _); subst hK; conv => whnf) | (with_reducible exact rfl) | refine st0 ⟨?_⟩ | ((with_reducible refine SplS.mk (fun h => ?_) (fun h => ?_)) <;> first | exact ctM | (subst h; conv => whnf) | (conv => whnf)) | (intro h; conv => whnf))
  all_goals repeat clear hK K1
  all_goals first | rfl | (refine db_eq ?_; rw [Bool.eq_iff_iff]; simp; done) | (refine db_eq ?_; rw [Bool.eq_iff_iff]; simp [*]; done) | (refine db_eq ?_; exact decide_eq_false omG) | (exact db_eq (by have h1 := (by with_reducible assumption : op = 0); rw [Bool.eq_iff_iff]; simp [h1])) | (exact db_eq (by rw [Bool.eq_iff_iff]; simp)) | (exact db_eq (by simp [*])) | skip
theorem qaq (op : Int) : CallsV Tryz.prog 208 [.dat (.i op)] (.dat (.bool (decide (qam op)))) := by
  refine oV Tryz.func208 ⟨?_⟩
  repeat' (first | ((with_reducible refine fun (K1 : KT) hK => ?_); refine stW ⟨?_⟩) | ((with_reducible show K1 _ _); subst hK; conv => whnf) | (with_reducible exact rfl) | refine st0 ⟨?_⟩ | ((with_reducible refine SplS.mk (fun h => ?_) (fun h => ?_)) <;> first | exact ctM | (subst h; conv => whnf) | (conv => whnf)) | (intro h; conv => whnf))
  all_goals repeat clear hK K1
  all_goals first | (refine db_eq ?_; unfold qam; first | (exact decide_eq_true omG) | (exact decide_eq_false omG)) | skip
theorem i_ConstTerm (w n : Int) (h : wordP w n = true) : CallsV Tryz.prog 103 [.dat (.i w), .dat (.i n)] (.agg [.dat (.i 0), .dat (.i w), .dat (.i n), .dat (.str ByteArray.empty), .dat (.seq .terms [])]) := by
  refine oV Tryz.func103 ⟨?_⟩
  repeat' (first | ((with_reducible refine fun (K1 : KT) hK => ?_); refine stW ⟨?_⟩) | ((with_reducible show K1 _ _); subst hK; conv => whnf) | (with_reducible refine frG ?_) | (with_reducible exact rfl) | refine st0 ⟨?_⟩ | ((with_reducible refine SplS.mk (fun h => ?_) (fun h => ?_)) <;> first | exact ctM | (subst h; conv => whnf) | (conv => whnf)) | ((with_reducible first | refine pcI (g := 101) ?_ | show Exists _); refine ⟨_, qc1 .., rfl, ?_⟩; rotate_right; conv => whnf) | (intro h; conv => whnf))
  all_goals repeat clear hK K1
  all_goals first | exact ⟨fr5n (t := cT w n) rfl⟩ | exact rfl | exact True.intro | (exact absurd (h.symm.trans asmR) (by decide)) | skip
section
variable {t : V.Term}
theorem qc5 (ht : okT t = true) (ho : t.op = 1 ∨ t.op = 2 ∨ t.op = 19 ∨ t.op = 20 ∨ t.op = 21) : (0 : Int) < t.kids.length := by rw [qjx ht ho]; decide
theorem qaj (ht : okT t = true) (ho : (3 ≤ t.op ∧ t.op ≤ 16) ∨ t.op = 18) : (0 : Int) < t.kids.length := by rw [qhb ht ho]; decide
theorem qap (ht : okT t = true) (ho : (3 ≤ t.op ∧ t.op ≤ 16) ∨ t.op = 18) : (1 : Int) < t.kids.length := by rw [qhb ht ho]; decide
theorem qfv (ht : okT t = true) (ho : t.op = 17) : (0 : Int) < t.kids.length := by rw [qgn ht ho]; decide
theorem qfu (ht : okT t = true) (ho : t.op = 17) : (1 : Int) < t.kids.length := by rw [qgn ht ho]; decide
theorem qft (ht : okT t = true) (ho : t.op = 17) : (2 : Int) < t.kids.length := by rw [qgn ht ho]; decide
end
theorem tn2 : Int.toNat 2 = 2 := rfl
structure IHR (m : Nat) : Prop where
  call : ∀ (op w n : Int) (nm : ByteArray) (ks : List V.Term), okT ⟨op, w, n, nm, ks⟩ = true → qbe ⟨op, w, n, nm, ks⟩ < m →
    CallsV Tryz.prog 158 [.agg [.dat (.i op), .dat (.i w), .dat (.i n), .dat (.str nm), .dat (.seq .terms ks)]] (qbj (mkT ⟨op, w, n, nm, ks⟩))
theorem ih_red {m : Nat} (ih : IHR m) {op w n : Int} {nm : ByteArray} {ks : List V.Term} (hk : okT ⟨op, w, n, nm, ks⟩ = true) (hm : qbe ⟨op, w, n, nm, ks⟩ < m) :
    CallsV Tryz.prog 158 [.agg [.dat (.i op), .dat (.i w), .dat (.i n), .dat (.str nm), .dat (.seq .terms ks)]] (qbj (mkT ⟨op, w, n, nm, ks⟩)) := ih.call op w n nm ks hk hm
theorem i_remake (op w n : Int) (ks : List V.Term) (m : Nat) (ih : IHR m) (hk : okT (oT op w n ks) = true) (hm : qbe (oT op w n ks) < m) : CallsV Tryz.prog 207 [.dat (.i op), .dat (.i w), .dat (.i n), .dat (.seq .terms ks)] (qbj (mkT (oT op w n ks))) := by
  refine oV Tryz.func207 ⟨?_⟩
  repeat' (first | ((with_reducible refine fun (K1 : KT) hK => ?_); refine stW ⟨?_⟩) | ((with_reducible show K1 _ _); subst hK; conv => whnf) | (with_reducible refine frG ?_) | (with_reducible exact rfl) | refine st0 ⟨?_⟩ | ((with_reducible refine SplS.mk (fun h => ?_) (fun h => ?_)) <;> first | exact ctM | ((fail_if_success (have _x : @Eq Bool _ _ := h)); subst h; conv => whnf) | (conv => whnf)) | ((with_reducible first | refine pcI (g := 158) ?_ | show Exists _); refine ⟨_, ih_red (ih := by assumption) (hk := ?_) (hm := ?_) .., rfl, ?_⟩; rotate_right; conv => whnf) | (intro h; conv => whnf))
  all_goals repeat clear hK K1
  all_goals first | exact ⟨fr5 (t := mkT (oT op w n ks)) (V.Term.eta _).symm⟩ | exact True.intro | (with_reducible assumption) | exact hk | exact hm | exact rfl | skip
section
variable {t x : V.Term} {b : Bool}
theorem qi4 (ht : okT t = true) (ho : 1 ≤ t.op ∧ t.op ≤ 21) (hc : qb2 t.kids = false) (hr : qdk t = (x, b)) : mkT t = if b = true then mkT x else x := by
  have hl : t.kids.length ≠ 0 := by
    intro e
    have h1 := qjx ht
    have h2 := qhb ht
    have h3 := qgn ht
    omega
  cases b with
  | true => rw [if_pos rfl]; exact mkT_again ht hl hc hr
  | false => rw [if_neg Bool.false_ne_true]; exact mkT_done hl hc hr
end
end Vg
