/- Paths: contracts of the program's load, store, follow, divide, step. Condition: the path is one under way (PI), the instruction is the program's. -/
import Derived.Test.YtahdmongckgjcaaGreatDoorPathI
namespace Vg
open Go Go.Proofs
set_option maxRecDepth 100000
set_option maxHeartbeats 40000000
structure LdX (p : V.Prog) (x : V.Term) : Prop where
  h : x.op = 0 → 0 ≤ x.n ∧ x.n < p.mem
structure LdI (p : V.Prog) (mm : List V.Term) (x : V.Term) (j : Nat) : Prop where
  jl : (j : Int) ≤ p.mem - 1
  ok : (qbd p mm x j).2 = true
theorem qfo {p : V.Prog} {k : Int} (h : qci p = true) (h0 : 0 ≤ k) (h1 : k < p.mem) : wordP p.w k = true := by
  have h2 := (qbj h).2.2.1
  obtain ⟨h3, h4, h5⟩ := qax h2
  exact qde h3 h0 (by omega)
theorem load_n {p : V.Prog} {mm : List V.Term} {x : V.Term} {j : Nat} (ok : (qbd p mm x j).2 = true) : qbd p mm x (j + 1) = qc9 p (p.mem - 2 - j) x (kAt mm (p.mem.toNat - 2 - j)) (qbd p mm x j).1 := by
  rw [qbd, if_pos ok]
theorem load_bad {p : V.Prog} {mm : List V.Term} {x : V.Term} : ∀ {j m : Nat}, (qbd p mm x j).2 = false → j ≤ m → (qbd p mm x m).2 = false
  | j, 0, h, hm => by obtain rfl : j = 0 := by omega
                      exact h
  | j, m + 1, h, hm => by
    by_cases e : j = m + 1
    · subst e; exact h
    · have := load_bad (m := m) h (by omega)
      rw [qbd, if_neg (by rw [this]; decide)]
theorem load_bad2 {p : V.Prog} {mm : List V.Term} {x : V.Term} {j m : Nat} (h : (qbd p mm x j).2 = false) (hj : 0 < j) (hm : j ≤ m) : qbd p mm x m = (zT, false) := by
  cases m with
  | zero => omega
  | succ m =>
    rw [qbd]
    by_cases c : (qbd p mm x m).2 = true
    · have e : j = m + 1 := by
        by_cases q : j ≤ m
        · rw [load_bad h q] at c; cases c
        · omega
      subst e
      rw [if_pos c]
      rw [qbd, if_pos c] at h
      unfold qc9 at h ⊢
      by_cases z : (mkP 14 1 0 [cT p.w (p.mem - 2 - m), x]).2 = true
      · rw [if_pos z] at h ⊢
        unfold mkP at h ⊢
        by_cases y : qek (oT 17 p.w 0 [(if qek (oT 14 1 0 [cT p.w (p.mem - 2 - ↑m), x]) = true then (mkT (oT 14 1 0 [cT p.w (p.mem - 2 - ↑m), x]), true) else (zT, false)).1, kAt mm (p.mem.toNat - 2 - m), (qbd p mm x m).1]) = true
        · rw [if_pos y] at h; cases h
        · rw [if_neg y]
      · rw [if_neg z]
    · rw [if_neg c]
section
variable {p : V.Prog} {mm : List V.Term} {x : V.Term} {j : Nat}
theorem qgd (hj : LdI p mm x j) : qbd p mm x (j + 1) = qc9 p (p.mem - 2 - j) x (mm.getD (p.mem - 2 - j).toNat K.terms.dflt) (qbd p mm x j).1 := by
  rw [load_n hj.ok, show (p.mem - 2 - (j : Int)).toNat = p.mem.toNat - 2 - j by omega]
theorem ld_ok (hj : LdI p mm x j) (h0 : p.mem - 2 - j ≥ 0) (h : (qc9 p (p.mem - 2 - j) x (mm.getD (p.mem - 2 - j).toNat K.terms.dflt) (qbd p mm x j).1).2 = true) : LdI p mm x (j + 1) :=
  ⟨by omega, by rw [qgd hj]; exact h⟩
theorem ld_bad (hx : ¬ x.op = 0) (hj : LdI p mm x j) (h0 : p.mem - 2 - j ≥ 0) (h : (qc9 p (p.mem - 2 - j) x (mm.getD (p.mem - 2 - j).toNat K.terms.dflt) (qbd p mm x j).1).2 = false) : qif p mm x = (zT, false) := by
  rw [← qgd hj] at h
  unfold qif
  rw [if_neg hx]
  exact load_bad2 h (by omega) (by omega)
theorem ld_end (hx : ¬ x.op = 0) (hj : LdI p mm x j) (h0 : ¬ p.mem - 2 - j ≥ 0) : qif p mm x = ((qbd p mm x j).1, true) := by
  have := hj.jl
  unfold qif
  rw [if_neg hx, show p.mem.toNat - 1 = j by omega, ← hj.ok]
theorem ld_0 (h : qci p = true) : LdI p mm x 0 := ⟨by have := qbj h; omega, rfl⟩
theorem qkv (h : qci p = true) : (qbd p mm x 0).1 = mm.getD (IntKind.i64.wrap (p.mem - 1)).toNat K.terms.dflt := by
  have := qbj h
  rw [qah (by omega) (by omega), show (p.mem - 1).toNat = p.mem.toNat - 1 by omega]
  rfl
end
theorem i_loaded (w mem inn : Int) (code : List V.Ins) (pc : Int) (rg mm : List V.Term) (sk : List Int) (ic : Int) (ot : List V.Term) (cd sp : Int) (cn : List V.Term) (tr : List Int) (xo xw xn : Int) (xm : ByteArray) (xk : List V.Term) (hp : qci ⟨w, mem, inn, code⟩ = true) (hm : (mm.length : Int) = mem) (hx : LdX ⟨w, mem, inn, code⟩ ⟨xo, xw, xn, xm, xk⟩) : CallsV Tryz.prog 140 [.agg [.dat (.i w), .dat (.i mem), .dat (.i inn), .dat (.seq .inss code)], .agg [.dat (.i pc), .dat (.seq .terms rg), .dat (.seq .terms mm), .dat (.seq .ints sk), .dat (.i ic), .dat (.seq .terms ot), .dat (.i cd), .dat (.i sp), .dat (.seq .terms cn), .dat (.seq .ints tr)], .agg [.dat (.i xo), .dat (.i xw), .dat (.i xn), .dat (.str xm), .dat (.seq .terms xk)]] (.tup [qbv (qif ⟨w, mem, inn, code⟩ mm ⟨xo, xw, xn, xm, xk⟩).1, .dat (.bool (qif ⟨w, mem, inn, code⟩ mm ⟨xo, xw, xn, xm, xk⟩).2)]) := by
  refine CallsV.of_awp qaf qag Tryz.func140 rfl rfl rfl ?_
  conv => whnf
  repeat' (first | ((with_reducible refine fun (K1 : AX → AState → Prop) hK => ?_); (with_reducible refine qae ?_ ?_); exact rfl; conv => whnf) | ((with_reducible refine fun (K1 : AX → AState → Prop) hK => ?_); (with_reducible refine qa9 ?_ ?_); exact rfl; (conv => whnf); simp only [List.nil_append, List.cons_append]) | ((with_reducible refine qap ?_); conv => whnf) | ((with_reducible refine qau ?_ ?_); exact rfl; conv => whnf) | ((with_reducible refine qak ?_ ?_); exact rfl) | ((with_reducible refine qav ?_)) | ((with_reducible refine qa5 ?_ ?_); exact rfl; conv => whnf) | ((with_reducible refine qaq ?_ ?_); exact rfl) | ((with_reducible refine qa4 ?_ ?_); exact rfl; conv => whnf) | ((with_reducible show WR _ _ _ _ _ _ _ _ _); refine qb7 rfl ?_) | ((with_reducible show WEach _ _); refine qal rfl ?_; conv => whnf) | ((with_reducible show WEach _ _); refine qao rfl ?_ ?_; conv => whnf) | ((with_reducible first | refine fun (K1 : AX → AState → Prop) hK => ?_ | (show K1 _ _; subst hK)); conv => whnf) | (with_reducible exact rfl) | ((with_reducible first | refine qbe (fun h => ?_) (fun h => ?_) | refine qcb (fun h => ?_) (fun h => ?_)) <;> first | contradiction | (subst h; conv => whnf) | (conv => whnf)) | ((with_reducible refine qbt (fun h => ?_) (fun h => ?_)) <;> first | (exact qa0 h (by with_reducible assumption)) | (exact qa0 (by with_reducible assumption) h) | (conv => whnf)) | (refine ⟨(rfl : qac _ = true), rfl, ?_⟩; conv => whnf) | (with_reducible refine qbn ?_ ?_) | ((with_reducible refine qad ?_ ?_); conv => whnf) | (refine Exists.intro ({j : Nat // LdI ⟨w, mem, inn, code⟩ mm ⟨xo, xw, xn, xm, xk⟩ j}) (Exists.intro (fun ⟨j, hj⟩ => mkS Tryz.f140.ntmps [(3, .ptr 3 0), (4, .ptr 4 0), (5, .ptr 5 0), (6, .ptr 6 0), (8, .ptr 8 0), (9, .dat (.i (mem - 2 - j)))] [(3, .box [.dat (.i w), .dat (.i mem), .dat (.i inn), .dat (.seq .inss code)]), (4, .box [.dat (.i pc), .dat (.seq .terms rg), .dat (.seq .terms mm), .dat (.seq .ints sk), .dat (.i ic), .dat (.seq .terms ot), .dat (.i cd), .dat (.i sp), .dat (.seq .terms cn), .dat (.seq .ints tr)]), (5, .box [.dat (.i xo), .dat (.i xw), .dat (.i xn), .dat (.str xm), .dat (.seq .terms xk)]), (6, .box [.dat (.i 0), .dat (.i 0), .dat (.i 0), .dat (.str ByteArray.empty), .nils]), (8, .box [.dat (.i (qbd ⟨w, mem, inn, code⟩ mm ⟨xo, xw, xn, xm, xk⟩ j).1.op), .dat (.i (qbd ⟨w, mem, inn, code⟩ mm ⟨xo, xw, xn, xm, xk⟩ j).1.w), .dat (.i (qbd ⟨w, mem, inn, code⟩ mm ⟨xo, xw, xn, xm, xk⟩ j).1.n), .dat (.str (qbd ⟨w, mem, inn, code⟩ mm ⟨xo, xw, xn, xm, xk⟩ j).1.name), .dat (.seq .terms (qbd ⟨w, mem, inn, code⟩ mm ⟨xo, xw, xn, xm, xk⟩ j).1.kids)])]) (Exists.intro (fun ⟨j, hj⟩ => mem.toNat - j) (Exists.intro ⟨0, ?_⟩ (And.intro (SubP.sub (σ := [(3, some 3), (4, some 4), (5, some 5), (6, some 6), (8, some 8)]) ⟨⟨rfl, rfl, rfl⟩, ⟨⟨rfl, rfl⟩, ⟨rfl, rfl⟩, ⟨rfl, rfl⟩, ⟨rfl, rfl⟩, ⟨rfl, rfl⟩, (qab ?_), trivial⟩, ⟨⟨(qaa ?_), (qaa ?_), (qaa ?_), (qaa ?_), trivial⟩, ⟨(qaa ?_), (qaa ?_), (qaa ?_), (qaa ?_), (qaa ?_), (qaa ?_), (qaa ?_), (qaa ?_), (qaa ?_), (qaa ?_), trivial⟩, ⟨(qaa ?_), (qaa ?_), (qaa ?_), (qaa ?_), (qaa ?_), trivial⟩, ⟨(qaa ?_), (qaa ?_), (qaa ?_), (qaa ?_), trivial, trivial⟩, ⟨(qaa ?_), (qaa ?_), (qaa ?_), (qaa ?_), (qaa ?_), trivial⟩, trivial⟩⟩) (fun ⟨j, hj⟩ => ?_))))); rotate_right; conv => whnf) | (refine Exists.intro (⟨j + 1, ?_⟩ : {j : Nat // LdI ⟨w, mem, inn, code⟩ mm ⟨xo, xw, xn, xm, xk⟩ j}) (And.intro ?_ (SubP.sub (σ := [(3, some 3), (4, some 4), (5, some 5), (6, some 6), (8, some 8)]) ⟨⟨rfl, rfl, rfl⟩, ⟨⟨rfl, rfl⟩, ⟨rfl, rfl⟩, ⟨rfl, rfl⟩, ⟨rfl, rfl⟩, ⟨rfl, rfl⟩, (qab ?_), trivial⟩, ⟨⟨(qaa ?_), (qaa ?_), (qaa ?_), (qaa ?_), trivial⟩, ⟨(qaa ?_), (qaa ?_), (qaa ?_), (qaa ?_), (qaa ?_), (qaa ?_), (qaa ?_), (qaa ?_), (qaa ?_), (qaa ?_), trivial⟩, ⟨(qaa ?_), (qaa ?_), (qaa ?_), (qaa ?_), (qaa ?_), trivial⟩, ⟨(qaa ?_), (qaa ?_), (qaa ?_), (qaa ?_), trivial, trivial⟩, ⟨(qaa ?_), (qaa ?_), (qaa ?_), (qaa ?_), (qaa ?_), trivial⟩, trivial⟩⟩))) | ((first | ((with_reducible refine pcI (g := 124) ?_); refine ⟨_, qa8 .., rfl, ?_⟩) | ((with_reducible refine pcI (g := 157) ?_); refine ⟨_, i_cellIs (hk := ?_) .., rfl, ?_⟩)); rotate_right; conv => whnf))
  all_goals (repeat (clear hK; clear K1))
  all_goals (have hM := qbj hp; dsimp only at hM; try simp only [V.Term.eta] at *)
  all_goals first | (with_reducible exact ld_0 hp) | (with_reducible exact ld_ok hj (by with_reducible assumption) (by with_reducible assumption)) | ((with_reducible show wordP _ _ = true); exact qfo hp (by omega) (by show _ < mem; omega)) | ((with_reducible show (_ : Nat) < _); (try dsimp only); omega) | (have q := hx.h rfl; dsimp only at q; omega) | ((with_reducible show (_ : Int) ≤ _); first | omega | (rw [qah (n := mem - 1) (by omega) (by omega)]; omega)) | ((with_reducible show (_ : Int) < _); first | omega | (rw [qah (n := mem - 1) (by omega) (by omega)]; omega)) | exact frB (congrArg Prod.snd (ld_bad (p := ⟨w, mem, inn, code⟩) (x := ⟨xo, xw, xn, xm, xk⟩) (by with_reducible assumption) hj (by with_reducible assumption) (by with_reducible assumption))) | exact fr5Mn (congrArg Prod.fst (ld_bad (p := ⟨w, mem, inn, code⟩) (x := ⟨xo, xw, xn, xm, xk⟩) (by with_reducible assumption) hj (by with_reducible assumption) (by with_reducible assumption))) | exact frB (congrArg Prod.snd (ld_end (p := ⟨w, mem, inn, code⟩) (x := ⟨xo, xw, xn, xm, xk⟩) (by with_reducible assumption) hj (by with_reducible assumption))) | exact fr5M ((congrArg Prod.fst (ld_end (p := ⟨w, mem, inn, code⟩) (x := ⟨xo, xw, xn, xm, xk⟩) (by with_reducible assumption) hj (by with_reducible assumption))).trans (V.Term.eta _).symm) | exact frB rfl | exact fr5M (V.Term.eta _).symm | (refine congrArg Dat.i ?_; rw [qah (by omega) (by omega)]; omega) | exact congrArg (fun t => Dat.i (V.Term.op t)) (qkv hp) | exact congrArg (fun t => Dat.i (V.Term.w t)) (qkv hp) | exact congrArg (fun t => Dat.i (V.Term.n t)) (qkv hp) | exact congrArg (fun t => Dat.str (V.Term.name t)) (qkv hp) | exact congrArg (fun t => Dat.seq K.terms (V.Term.kids t)) (qkv hp) | exact congrArg (fun t => Dat.i (V.Term.op (Prod.fst t))) (qgd hj) | exact congrArg (fun t => Dat.i (V.Term.w (Prod.fst t))) (qgd hj) | exact congrArg (fun t => Dat.i (V.Term.n (Prod.fst t))) (qgd hj) | exact congrArg (fun t => Dat.str (V.Term.name (Prod.fst t))) (qgd hj) | exact congrArg (fun t => Dat.seq K.terms (V.Term.kids (Prod.fst t))) (qgd hj) | skip
structure StI (p : V.Prog) (mm : List V.Term) (x t : V.Term) (k : Nat) : Prop where
  kl : k ≤ mm.length
  ok : qc1 p mm x t k = true
section
variable {p : V.Prog} {mm : List V.Term} {x t : V.Term} {k : Nat}
theorem st_len : (qf5 p mm x t k).length = k := by simp [qf5]
theorem st_ok (hk : StI p mm x t k) (h0 : (k : Int) < mm.length) (h : (qc9 p k x t (mm.getD (k : Int).toNat K.terms.dflt)).2 = true) : StI p mm x t (k + 1) := by
  refine ⟨by omega, ?_⟩
  rw [qc1, hk.ok, Bool.true_and]
  exact h
theorem st_bad1 : ∀ {k m : Nat}, qc1 p mm x t k = false → k ≤ m → qc1 p mm x t m = false
  | k, 0, h, hm => by obtain rfl : k = 0 := by omega
                      exact h
  | k, m + 1, h, hm => by
    by_cases e : k = m + 1
    · subst e; exact h
    · rw [qc1, st_bad1 (m := m) h (by omega), Bool.false_and]
theorem st_bad (hx : ¬ x.op = 0) (hl : (mm.length : Int) = p.mem) (h0 : (k : Int) < mm.length) (h : (qc9 p k x t (mm.getD (k : Int).toNat K.terms.dflt)).2 = false) : qgr p mm x t = ([], false) := by
  have h2 : qc1 p mm x t (k + 1) = false := by
    rw [qc1, show (qc9 p (k : Int) x t (kAt mm k)).2 = false from h, Bool.and_false]
  unfold qgr
  rw [if_neg hx, st_bad1 h2 (by omega)]
  rfl
theorem st_end (hx : ¬ x.op = 0) (hl : (mm.length : Int) = p.mem) (hk : StI p mm x t k) (h0 : ¬ (k : Int) < mm.length) : qgr p mm x t = (qf5 p mm x t k, true) := by
  have := hk.kl
  unfold qgr
  rw [if_neg hx, show p.mem.toNat = k by omega, hk.ok]
  rfl
theorem st_set (h0 : (k : Int) < mm.length) {y : V.Term} (h : y = (qc9 p k x t (mm.getD (k : Int).toNat K.terms.dflt)).1) :
    (qf5 p mm x t k ++ List.replicate (mm.length - k) zT).set k y = qf5 p mm x t (k + 1) ++ List.replicate (mm.length - (k + 1)) zT := by
  have e : mm.length - k = (mm.length - (k + 1)) + 1 := by omega
  rw [List.set_append_right _ _ (by rw [st_len]; exact Nat.le_refl _), st_len, Nat.sub_self, e, List.replicate_succ, List.set_cons_zero]
  unfold qf5
  rw [List.range_succ, List.map_append, List.append_assoc, h]
  rfl
end
theorem i_stored (w mem inn : Int) (code : List V.Ins) (pc : Int) (rg mm : List V.Term) (sk : List Int) (ic : Int) (ot : List V.Term) (cd sp : Int) (cn : List V.Term) (tr : List Int) (xo xw xn : Int) (xm : ByteArray) (xk : List V.Term) (uo uw un : Int) (um : ByteArray) (uk : List V.Term) (hp : qci ⟨w, mem, inn, code⟩ = true) (hm : (mm.length : Int) = mem) (hx : LdX ⟨w, mem, inn, code⟩ ⟨xo, xw, xn, xm, xk⟩) : CallsV Tryz.prog 141 [.agg [.dat (.i w), .dat (.i mem), .dat (.i inn), .dat (.seq .inss code)], .agg [.dat (.i pc), .dat (.seq .terms rg), .dat (.seq .terms mm), .dat (.seq .ints sk), .dat (.i ic), .dat (.seq .terms ot), .dat (.i cd), .dat (.i sp), .dat (.seq .terms cn), .dat (.seq .ints tr)], .agg [.dat (.i xo), .dat (.i xw), .dat (.i xn), .dat (.str xm), .dat (.seq .terms xk)], .agg [.dat (.i uo), .dat (.i uw), .dat (.i un), .dat (.str um), .dat (.seq .terms uk)]] (.tup [.dat (.seq .terms (qgr ⟨w, mem, inn, code⟩ mm ⟨xo, xw, xn, xm, xk⟩ ⟨uo, uw, un, um, uk⟩).1), .dat (.bool (qgr ⟨w, mem, inn, code⟩ mm ⟨xo, xw, xn, xm, xk⟩ ⟨uo, uw, un, um, uk⟩).2)]) := by
  refine CallsV.of_awp qaf qag Tryz.func141 rfl rfl rfl ?_
  conv => whnf
  repeat' (first | ((with_reducible refine fun (K1 : AX → AState → Prop) hK => ?_); (with_reducible refine qae ?_ ?_); exact rfl; conv => whnf) | ((with_reducible refine fun (K1 : AX → AState → Prop) hK => ?_); (with_reducible refine qa9 ?_ ?_); exact rfl; (conv => whnf); simp only [List.nil_append, List.cons_append]) | ((with_reducible refine qap ?_); conv => whnf) | ((with_reducible refine qau ?_ ?_); exact rfl; conv => whnf) | ((with_reducible refine qak ?_ ?_); exact rfl) | ((with_reducible refine qav ?_)) | ((with_reducible refine qa5 ?_ ?_); exact rfl; conv => whnf) | ((with_reducible refine qaq ?_ ?_); exact rfl) | ((with_reducible refine qa4 ?_ ?_); exact rfl; conv => whnf) | ((with_reducible show WR _ _ _ _ _ _ _ _ _); refine qb7 rfl ?_) | ((with_reducible show WEach _ _); refine qal rfl ?_; conv => whnf) | ((with_reducible show WEach _ _); refine qao rfl ?_ ?_; conv => whnf) | ((with_reducible first | refine Alt.l ?_ | refine fun (K1 : AX → AState → Prop) hK => ?_ | (show K1 _ _; subst hK)); conv => whnf) | (with_reducible exact rfl) | ((with_reducible first | refine qbe (fun h => ?_) (fun h => ?_) | refine qcb (fun h => ?_) (fun h => ?_)) <;> first | contradiction | (subst h; conv => whnf) | (conv => whnf)) | ((with_reducible refine qbt (fun h => ?_) (fun h => ?_)) <;> first | (exact qa0 h (by with_reducible assumption)) | (exact qa0 (by with_reducible assumption) h) | (conv => whnf)) | (refine ⟨(rfl : qac _ = true), rfl, ?_⟩; conv => whnf) | (with_reducible refine qbn ?_ ?_) | (with_reducible refine qdv ?_ ?_) | ((with_reducible refine qad ?_ ?_); conv => whnf) | (refine Exists.intro ({k : Nat // StI ⟨w, mem, inn, code⟩ mm ⟨xo, xw, xn, xm, xk⟩ ⟨uo, uw, un, um, uk⟩ k}) (Exists.intro (fun ⟨k, hk⟩ => mkS Tryz.f141.ntmps [(4, .ptr 4 0), (5, .ptr 5 0), (6, .ptr 6 0), (7, .ptr 7 0), (10, .row 24), (26, .dat (.i mm.length)), (27, .dat (.i k))] [(4, .box [.dat (.i w), .dat (.i mem), .dat (.i inn), .dat (.seq .inss code)]), (5, .box [.dat (.i pc), .dat (.seq .terms rg), .dat (.seq .terms mm), .dat (.seq .ints sk), .dat (.i ic), .dat (.seq .terms ot), .dat (.i cd), .dat (.i sp), .dat (.seq .terms cn), .dat (.seq .ints tr)]), (6, .box [.dat (.i xo), .dat (.i xw), .dat (.i xn), .dat (.str xm), .dat (.seq .terms xk)]), (7, .box [.dat (.i uo), .dat (.i uw), .dat (.i un), .dat (.str um), .dat (.seq .terms uk)]), (24, .row 109 .terms (qf5 ⟨w, mem, inn, code⟩ mm ⟨xo, xw, xn, xm, xk⟩ ⟨uo, uw, un, um, uk⟩ k ++ List.replicate (mm.length - k) zT) false)]) (Exists.intro (fun ⟨k, hk⟩ => mm.length - k) (Exists.intro ⟨0, ?_⟩ (And.intro (SubP.sub (σ := [(4, some 4), (5, some 5), (6, some 6), (7, some 7), (24, some 24)]) ⟨⟨rfl, rfl, rfl⟩, ⟨⟨rfl, rfl⟩, ⟨rfl, rfl⟩, ⟨rfl, rfl⟩, ⟨rfl, rfl⟩, rfl, (qab ?_), (qab ?_), trivial⟩, ⟨⟨(qaa ?_), (qaa ?_), (qaa ?_), (qaa ?_), trivial⟩, ⟨(qaa ?_), (qaa ?_), (qaa ?_), (qaa ?_), (qaa ?_), (qaa ?_), (qaa ?_), (qaa ?_), (qaa ?_), (qaa ?_), trivial⟩, ⟨(qaa ?_), (qaa ?_), (qaa ?_), (qaa ?_), (qaa ?_), trivial⟩, ⟨(qaa ?_), (qaa ?_), (qaa ?_), (qaa ?_), (qaa ?_), trivial⟩, ⟨⟨rfl, rfl⟩, ?_⟩, trivial⟩⟩) (fun ⟨k, hk⟩ => ?_))))); rotate_right; conv => whnf) | (refine Exists.intro (⟨k + 1, ?_⟩ : {k : Nat // StI ⟨w, mem, inn, code⟩ mm ⟨xo, xw, xn, xm, xk⟩ ⟨uo, uw, un, um, uk⟩ k}) (And.intro ?_ (SubP.sub (σ := [(4, some 4), (5, some 5), (6, some 6), (7, some 7), (24, some 24)]) ⟨⟨rfl, rfl, rfl⟩, ⟨⟨rfl, rfl⟩, ⟨rfl, rfl⟩, ⟨rfl, rfl⟩, ⟨rfl, rfl⟩, rfl, (qab ?_), (qab ?_), trivial⟩, ⟨⟨(qaa ?_), (qaa ?_), (qaa ?_), (qaa ?_), trivial⟩, ⟨(qaa ?_), (qaa ?_), (qaa ?_), (qaa ?_), (qaa ?_), (qaa ?_), (qaa ?_), (qaa ?_), (qaa ?_), (qaa ?_), trivial⟩, ⟨(qaa ?_), (qaa ?_), (qaa ?_), (qaa ?_), (qaa ?_), trivial⟩, ⟨(qaa ?_), (qaa ?_), (qaa ?_), (qaa ?_), (qaa ?_), trivial⟩, ⟨⟨rfl, rfl⟩, ?_⟩, trivial⟩⟩))) | ((first | ((with_reducible refine pcI (g := 124) ?_); refine ⟨_, qa8 .., rfl, ?_⟩) | ((with_reducible refine pcI (g := 137) ?_); refine ⟨_, i_put (h1 := ?_) (hk := ?_) .., rfl, ?_⟩) | ((with_reducible refine pcI (g := 157) ?_); refine ⟨_, i_cellIs (hk := ?_) .., rfl, ?_⟩)); rotate_right; conv => whnf) | (intro h; conv => whnf))
  all_goals (repeat (clear hK; clear K1))
  all_goals (have hM := qbj hp; dsimp only at hM; try simp only [V.Term.eta] at *)
  all_goals first | (with_reducible exact st_ok hk (by with_reducible assumption) (by with_reducible assumption)) | exact ⟨Nat.zero_le _, rfl⟩ | ((with_reducible show wordP _ _ = true); exact qfo hp (by omega) (by show _ < mem; omega)) | ((with_reducible show (_ : Nat) < _); (try dsimp only); first | omega | (simp only [List.length_append, List.length_replicate, st_len]; omega)) | (have q := hx.h rfl; dsimp only at q; omega) | ((with_reducible show (_ : Int) ≤ _); first | omega | (show mem * 64 ≤ _; omega) | (show mem ≤ (((2 ^ 63 - 1 : Nat)) : Int); omega)) | ((with_reducible show (_ : Int) < _); first | omega | (simp only [List.length_append, List.length_replicate, st_len]; omega)) | exact frB (congrArg Prod.snd (st_bad (p := ⟨w, mem, inn, code⟩) (x := ⟨xo, xw, xn, xm, xk⟩) (by with_reducible assumption) hm (by with_reducible assumption) (by with_reducible assumption))) | exact frB (congrArg Prod.snd (st_end (p := ⟨w, mem, inn, code⟩) (x := ⟨xo, xw, xn, xm, xk⟩) (by with_reducible assumption) hm hk (by with_reducible assumption))) | (have e := st_end (p := ⟨w, mem, inn, code⟩) (x := ⟨xo, xw, xn, xm, xk⟩) (t := ⟨uo, uw, un, um, uk⟩) (by with_reducible assumption) hm hk (by with_reducible assumption); rw [e, show mm.length - k = 0 by omega, List.replicate_zero, List.append_nil]; first | exact rfl | exact frB rfl) | (rw [st_bad (p := ⟨w, mem, inn, code⟩) (x := ⟨xo, xw, xn, xm, xk⟩) (by with_reducible assumption) hm (by with_reducible assumption) (by with_reducible assumption)]; exact rfl) | exact frB rfl | exact rfl | exact congrArg (Sigma.mk K.terms) (st_set (by with_reducible assumption) rfl).symm | (refine congrArg (Dat.int .i64) ?_; rw [qah (by omega) (by omega)]; rfl) | (refine congrArg Dat.i ?_; simp only [List.length_replicate]; omega) | (refine congrArg (Sigma.mk K.terms) ?_; rw [show mm.length - 0 = mem.toNat by omega]; rfl) | skip
end Vg
