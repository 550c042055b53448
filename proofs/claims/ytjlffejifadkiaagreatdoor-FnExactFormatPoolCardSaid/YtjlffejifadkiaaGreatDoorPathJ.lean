/- Paths: contracts of the program's load, store, follow, divide, step. Condition: the path is one under way (PI), the instruction is the program's. -/
import Derived.Test.YtjlffejifadkiaaGreatDoorPathI
namespace Vg
open Go Go.Proofs
set_option maxRecDepth 100000
set_option maxHeartbeats 40000000
structure LdX (p : V.Prog) (x : V.Term) : Prop where
  h : x.op = 0 → 0 ≤ x.n ∧ x.n < p.mem
structure LdI (p : V.Prog) (mm : List V.Term) (x : V.Term) (j : Nat) : Prop where
  jl : (j : Int) ≤ p.mem - 1
  ok : (qa4 p mm x j).2 = true
theorem qe8 {p : V.Prog} {k : Int} (h : qbz p = true) (h0 : 0 ≤ k) (h1 : k < p.mem) : wordP p.w k = true := by
  have h2 := (qa8 h).2.2.1
  obtain ⟨h3, h4, h5⟩ := qas h2
  exact qcx h3 h0 omG
theorem load_n {p : V.Prog} {mm : List V.Term} {x : V.Term} {j : Nat} (ok : (qa4 p mm x j).2 = true) : qa4 p mm x (j + 1) = qcs p (p.mem - 2 - j) x (kAt mm (p.mem.toNat - 2 - j)) (qa4 p mm x j).1 := by
  rw [qa4, if_pos ok]
theorem load_bad {p : V.Prog} {mm : List V.Term} {x : V.Term} : ∀ {j m : Nat}, (qa4 p mm x j).2 = false → j ≤ m → (qa4 p mm x m).2 = false
  | j, 0, h, hm => by obtain rfl : j = 0 := by omega
                      exact h
  | j, m + 1, h, hm => by
    by_cases e : j = m + 1
    · subst e; exact h
    · have := load_bad (m := m) h omG
      rw [qa4, if_neg (by rw [this]; decide)]
theorem load_bad2 {p : V.Prog} {mm : List V.Term} {x : V.Term} {j m : Nat} (h : (qa4 p mm x j).2 = false) (hj : 0 < j) (hm : j ≤ m) : qa4 p mm x m = (zT, false) := by
  cases m with
  | zero => omega
  | succ m =>
    rw [qa4]
    by_cases c : (qa4 p mm x m).2 = true
    · have e : j = m + 1 := by
        by_cases q : j ≤ m
        · rw [load_bad h q] at c; cases c
        · omega
      subst e
      rw [if_pos c]
      rw [qa4, if_pos c] at h
      unfold qcs at h ⊢
      by_cases z : (mkP 14 1 0 [cT p.w (p.mem - 2 - m), x]).2 = true
      · rw [if_pos z] at h ⊢
        unfold mkP at h ⊢
        by_cases y : qd2 (oT 17 p.w 0 [(if qd2 (oT 14 1 0 [cT p.w (p.mem - 2 - ↑m), x]) = true then (mkT (oT 14 1 0 [cT p.w (p.mem - 2 - ↑m), x]), true) else (zT, false)).1, kAt mm (p.mem.toNat - 2 - m), (qa4 p mm x m).1]) = true
        · rw [if_pos y] at h; cases h
        · rw [if_neg y]
      · rw [if_neg z]
    · rw [if_neg c]
section
variable {p : V.Prog} {mm : List V.Term} {x : V.Term} {j : Nat}
theorem qfw (hj : LdI p mm x j) : qa4 p mm x (j + 1) = qcs p (p.mem - 2 - j) x (mm.getD (p.mem - 2 - j).toNat K.terms.dflt) (qa4 p mm x j).1 := by
  rw [load_n hj.ok, show (p.mem - 2 - (j : Int)).toNat = p.mem.toNat - 2 - j by omega]
theorem ld_ok (hj : LdI p mm x j) (h0 : p.mem - 2 - j ≥ 0) (h : (qcs p (p.mem - 2 - j) x (mm.getD (p.mem - 2 - j).toNat K.terms.dflt) (qa4 p mm x j).1).2 = true) : LdI p mm x (j + 1) :=
  ⟨by omega, by rw [qfw hj]; exact h⟩
theorem ld_bad (hx : ¬ x.op = 0) (hj : LdI p mm x j) (h0 : p.mem - 2 - j ≥ 0) (h : (qcs p (p.mem - 2 - j) x (mm.getD (p.mem - 2 - j).toNat K.terms.dflt) (qa4 p mm x j).1).2 = false) : qh3 p mm x = (zT, false) := by
  rw [← qfw hj] at h
  unfold qh3
  rw [if_neg hx]
  exact load_bad2 h omG omG
theorem ld_end (hx : ¬ x.op = 0) (hj : LdI p mm x j) (h0 : ¬ p.mem - 2 - j ≥ 0) : qh3 p mm x = ((qa4 p mm x j).1, true) := by
  have := hj.jl
  unfold qh3
  rw [if_neg hx, show p.mem.toNat - 1 = j by omega, ← hj.ok]
theorem ld_0 (h : qbz p = true) : LdI p mm x 0 := ⟨by have := qa8 h; omega, rfl⟩
theorem qkp (h : qbz p = true) : (qa4 p mm x 0).1 = mm.getD (IntKind.i64.wrap (p.mem - 1)).toNat K.terms.dflt := by
  have := qa8 h
  rw [qac omG omG, show (p.mem - 1).toNat = p.mem.toNat - 1 by omega]
  rfl
end
theorem i_loaded (w mem inn : Int) (code : List V.Ins) (pc : Int) (rg mm : List V.Term) (sk : List Int) (ic : Int) (ot : List V.Term) (cd sp : Int) (cn : List V.Term) (tr : List Int) (xo xw xn : Int) (xm : ByteArray) (xk : List V.Term) (hp : qbz ⟨w, mem, inn, code⟩ = true) (hm : (mm.length : Int) = mem) (hx : LdX ⟨w, mem, inn, code⟩ ⟨xo, xw, xn, xm, xk⟩) : CallsV Tryz.prog 155 [.agg [.dat (.i w), .dat (.i mem), .dat (.i inn), .dat (.seq .inss code)], .agg [.dat (.i pc), .dat (.seq .terms rg), .dat (.seq .terms mm), .dat (.seq .ints sk), .dat (.i ic), .dat (.seq .terms ot), .dat (.i cd), .dat (.i sp), .dat (.seq .terms cn), .dat (.seq .ints tr)], .agg [.dat (.i xo), .dat (.i xw), .dat (.i xn), .dat (.str xm), .dat (.seq .terms xk)]] (.tup [qbj (qh3 ⟨w, mem, inn, code⟩ mm ⟨xo, xw, xn, xm, xk⟩).1, .dat (.bool (qh3 ⟨w, mem, inn, code⟩ mm ⟨xo, xw, xn, xm, xk⟩).2)]) := by
  refine oV Tryz.func155 ⟨?_⟩
  repeat' (first | ((with_reducible refine fun (K1 : KT) hK => ?_); refine stW ⟨?_⟩) | ((with_reducible show K1 _ _); subst hK; conv => whnf) | (with_reducible exact rfl) | refine stD ⟨?_⟩ | ((with_reducible show WEach _ _); refine qag rfl ?_ ?_; conv => whnf) | refine st0 ⟨?_⟩ | ((with_reducible refine SplS.mk (fun h => ?_) (fun h => ?_)) <;> first | exact ctM | (subst h; conv => whnf) | (conv => whnf)) | refine stB ⟨?_⟩ ⟨?_⟩ | (refine Exists.intro ({j : Nat // LdI ⟨w, mem, inn, code⟩ mm ⟨xo, xw, xn, xm, xk⟩ j}) (Exists.intro (fun ⟨j, hj⟩ => mkS Tryz.f155.ntmps [(3, .ptr 3 0), (4, .ptr 4 0), (5, .ptr 5 0), (6, .ptr 6 0), (8, .ptr 8 0), (9, .dat (.i (mem - 2 - j)))] [(3, .box [.dat (.i w), .dat (.i mem), .dat (.i inn), .dat (.seq .inss code)]), (4, .box [.dat (.i pc), .dat (.seq .terms rg), .dat (.seq .terms mm), .dat (.seq .ints sk), .dat (.i ic), .dat (.seq .terms ot), .dat (.i cd), .dat (.i sp), .dat (.seq .terms cn), .dat (.seq .ints tr)]), (5, .box [.dat (.i xo), .dat (.i xw), .dat (.i xn), .dat (.str xm), .dat (.seq .terms xk)]), (6, .box [.dat (.i 0), .dat (.i 0), .dat (.i 0), .dat (.str ByteArray.empty), .nils]), (8, .box [.dat (.i (qa4 ⟨w, mem, inn, code⟩ mm ⟨xo, xw, xn, xm, xk⟩ j).1.op), .dat (.i (qa4 ⟨w, mem, inn, code⟩ mm ⟨xo, xw, xn, xm, xk⟩ j).1.w), .dat (.i (qa4 ⟨w, mem, inn, code⟩ mm ⟨xo, xw, xn, xm, xk⟩ j).1.n), .dat (.str (qa4 ⟨w, mem, inn, code⟩ mm ⟨xo, xw, xn, xm, xk⟩ j).1.name), .dat (.seq .terms (qa4 ⟨w, mem, inn, code⟩ mm ⟨xo, xw, xn, xm, xk⟩ j).1.kids)])]) (Exists.intro (fun ⟨j, hj⟩ => mem.toNat - j) (Exists.intro ⟨0, ?_⟩ (And.intro (SubP.sub (σ := [(3, some 3), (4, some 4), (5, some 5), (6, some 6), (8, some 8)]) ⟨⟨rfl, rfl, rfl⟩, ⟨⟨rfl, rfl⟩, ⟨rfl, rfl⟩, ⟨rfl, rfl⟩, ⟨rfl, rfl⟩, ⟨rfl, rfl⟩, (qab ?_), trivial⟩, ⟨⟨(qaa ?_), (qaa ?_), (qaa ?_), (qaa ?_), trivial⟩, ⟨(qaa ?_), (qaa ?_), (qaa ?_), (qaa ?_), (qaa ?_), (qaa ?_), (qaa ?_), (qaa ?_), (qaa ?_), (qaa ?_), trivial⟩, ⟨(qaa ?_), (qaa ?_), (qaa ?_), (qaa ?_), (qaa ?_), trivial⟩, ⟨(qaa ?_), (qaa ?_), (qaa ?_), (qaa ?_), trivial, trivial⟩, ⟨(qaa ?_), (qaa ?_), (qaa ?_), (qaa ?_), (qaa ?_), trivial⟩, trivial⟩⟩) (fun ⟨j, hj⟩ => ?_))))); rotate_right; conv => whnf) | (refine Exists.intro (⟨j + 1, ?_⟩ : {j : Nat // LdI ⟨w, mem, inn, code⟩ mm ⟨xo, xw, xn, xm, xk⟩ j}) (And.intro ?_ (SubP.sub (σ := [(3, some 3), (4, some 4), (5, some 5), (6, some 6), (8, some 8)]) ⟨⟨rfl, rfl, rfl⟩, ⟨⟨rfl, rfl⟩, ⟨rfl, rfl⟩, ⟨rfl, rfl⟩, ⟨rfl, rfl⟩, ⟨rfl, rfl⟩, (qab ?_), trivial⟩, ⟨⟨(qaa ?_), (qaa ?_), (qaa ?_), (qaa ?_), trivial⟩, ⟨(qaa ?_), (qaa ?_), (qaa ?_), (qaa ?_), (qaa ?_), (qaa ?_), (qaa ?_), (qaa ?_), (qaa ?_), (qaa ?_), trivial⟩, ⟨(qaa ?_), (qaa ?_), (qaa ?_), (qaa ?_), (qaa ?_), trivial⟩, ⟨(qaa ?_), (qaa ?_), (qaa ?_), (qaa ?_), trivial, trivial⟩, ⟨(qaa ?_), (qaa ?_), (qaa ?_), (qaa ?_), (qaa ?_), trivial⟩, trivial⟩⟩))) | ((with_reducible first | refine pcI (g := 135) ?_ | show Exists _); refine ⟨_, qal .., rfl, ?_⟩; rotate_right; conv => whnf) | ((with_reducible first | refine pcI (g := 181) ?_ | show Exists _); refine ⟨_, i_cellIs (hk := ?_) .., rfl, ?_⟩; rotate_right; conv => whnf) | (intro h; conv => whnf))
  all_goals repeat clear hK K1
  all_goals (have hM := qa8 hp; dsimp only at hM; try simp only [V.Term.eta] at *)
  all_goals first | exact True.intro | (with_reducible exact ld_0 hp) | (with_reducible exact ld_ok hj asmR asmR) | ((with_reducible show wordP _ _ = true); exact qe8 hp omG (by show _ < mem; omega)) | ((with_reducible show (_ : Nat) < _); (try dsimp only); omega) | (have q := hx.h rfl; dsimp only at q; omega) | ((with_reducible show (_ : Int) ≤ _); first | omega | (rw [qac (n := mem - 1) omG omG]; omega)) | ((with_reducible show (_ : Int) < _); first | omega | (rw [qac (n := mem - 1) omG omG]; omega)) | exact frB (congrArg Prod.snd (ld_bad (p := ⟨w, mem, inn, code⟩) (x := ⟨xo, xw, xn, xm, xk⟩) asmR hj asmR asmR)) | exact fr5Mn (congrArg Prod.fst (ld_bad (p := ⟨w, mem, inn, code⟩) (x := ⟨xo, xw, xn, xm, xk⟩) asmR hj asmR asmR)) | exact frB (congrArg Prod.snd (ld_end (p := ⟨w, mem, inn, code⟩) (x := ⟨xo, xw, xn, xm, xk⟩) asmR hj asmR)) | exact fr5M ((congrArg Prod.fst (ld_end (p := ⟨w, mem, inn, code⟩) (x := ⟨xo, xw, xn, xm, xk⟩) asmR hj asmR)).trans (V.Term.eta _).symm) | exact frB rfl | exact fr5M (V.Term.eta _).symm | (refine congrArg Dat.i ?_; rw [qac omG omG]; omega) | exact congrArg (fun t => Dat.i (V.Term.op t)) (qkp hp) | exact congrArg (fun t => Dat.i (V.Term.w t)) (qkp hp) | exact congrArg (fun t => Dat.i (V.Term.n t)) (qkp hp) | exact congrArg (fun t => Dat.str (V.Term.name t)) (qkp hp) | exact congrArg (fun t => Dat.seq K.terms (V.Term.kids t)) (qkp hp) | exact congrArg (fun t => Dat.i (V.Term.op (Prod.fst t))) (qfw hj) | exact congrArg (fun t => Dat.i (V.Term.w (Prod.fst t))) (qfw hj) | exact congrArg (fun t => Dat.i (V.Term.n (Prod.fst t))) (qfw hj) | exact congrArg (fun t => Dat.str (V.Term.name (Prod.fst t))) (qfw hj) | exact congrArg (fun t => Dat.seq K.terms (V.Term.kids (Prod.fst t))) (qfw hj) | skip
structure StI (p : V.Prog) (mm : List V.Term) (x t : V.Term) (k : Nat) : Prop where
  kl : k ≤ mm.length
  ok : qcl p mm x t k = true
section
variable {p : V.Prog} {mm : List V.Term} {x t : V.Term} {k : Nat}
theorem st_len : (qfo p mm x t k).length = k := by simp [qfo]
theorem st_ok (hk : StI p mm x t k) (h0 : (k : Int) < mm.length) (h : (qcs p k x t (mm.getD (k : Int).toNat K.terms.dflt)).2 = true) : StI p mm x t (k + 1) := by
  refine ⟨by omega, ?_⟩
  rw [qcl, hk.ok, Bool.true_and]
  exact h
theorem st_bad1 : ∀ {k m : Nat}, qcl p mm x t k = false → k ≤ m → qcl p mm x t m = false
  | k, 0, h, hm => by obtain rfl : k = 0 := by omega
                      exact h
  | k, m + 1, h, hm => by
    by_cases e : k = m + 1
    · subst e; exact h
    · rw [qcl, st_bad1 (m := m) h omG, Bool.false_and]
theorem st_bad (hx : ¬ x.op = 0) (hl : (mm.length : Int) = p.mem) (h0 : (k : Int) < mm.length) (h : (qcs p k x t (mm.getD (k : Int).toNat K.terms.dflt)).2 = false) : qgd p mm x t = ([], false) := by
  have h2 : qcl p mm x t (k + 1) = false := by
    rw [qcl, show (qcs p (k : Int) x t (kAt mm k)).2 = false from h, Bool.and_false]
  unfold qgd
  rw [if_neg hx, st_bad1 h2 omG]
  rfl
theorem st_end (hx : ¬ x.op = 0) (hl : (mm.length : Int) = p.mem) (hk : StI p mm x t k) (h0 : ¬ (k : Int) < mm.length) : qgd p mm x t = (qfo p mm x t k, true) := by
  have := hk.kl
  unfold qgd
  rw [if_neg hx, show p.mem.toNat = k by omega, hk.ok]
  rfl
theorem st_set (h0 : (k : Int) < mm.length) {y : V.Term} (h : y = (qcs p k x t (mm.getD (k : Int).toNat K.terms.dflt)).1) :
    (qfo p mm x t k ++ List.replicate (mm.length - k) zT).set k y = qfo p mm x t (k + 1) ++ List.replicate (mm.length - (k + 1)) zT := by
  have e : mm.length - k = (mm.length - (k + 1)) + 1 := by omega
  rw [List.set_append_right _ _ (by rw [st_len]; exact Nat.le_refl _), st_len, Nat.sub_self, e, List.replicate_succ, List.set_cons_zero]
  unfold qfo
  rw [List.range_succ, List.map_append, List.append_assoc, h]
  rfl
end
theorem i_stored (w mem inn : Int) (code : List V.Ins) (pc : Int) (rg mm : List V.Term) (sk : List Int) (ic : Int) (ot : List V.Term) (cd sp : Int) (cn : List V.Term) (tr : List Int) (xo xw xn : Int) (xm : ByteArray) (xk : List V.Term) (uo uw un : Int) (um : ByteArray) (uk : List V.Term) (hp : qbz ⟨w, mem, inn, code⟩ = true) (hm : (mm.length : Int) = mem) (hx : LdX ⟨w, mem, inn, code⟩ ⟨xo, xw, xn, xm, xk⟩) : CallsV Tryz.prog 156 [.agg [.dat (.i w), .dat (.i mem), .dat (.i inn), .dat (.seq .inss code)], .agg [.dat (.i pc), .dat (.seq .terms rg), .dat (.seq .terms mm), .dat (.seq .ints sk), .dat (.i ic), .dat (.seq .terms ot), .dat (.i cd), .dat (.i sp), .dat (.seq .terms cn), .dat (.seq .ints tr)], .agg [.dat (.i xo), .dat (.i xw), .dat (.i xn), .dat (.str xm), .dat (.seq .terms xk)], .agg [.dat (.i uo), .dat (.i uw), .dat (.i un), .dat (.str um), .dat (.seq .terms uk)]] (.tup [.dat (.seq .terms (qgd ⟨w, mem, inn, code⟩ mm ⟨xo, xw, xn, xm, xk⟩ ⟨uo, uw, un, um, uk⟩).1), .dat (.bool (qgd ⟨w, mem, inn, code⟩ mm ⟨xo, xw, xn, xm, xk⟩ ⟨uo, uw, un, um, uk⟩).2)]) := by
  refine oV Tryz.func156 ⟨?_⟩
  repeat' (first | ((with_reducible refine fun (K1 : KT) hK => ?_); refine stW ⟨?_⟩) | ((with_reducible show K1 _ _); subst hK; conv => whnf) | (with_reducible exact rfl) | refine stD ⟨?_⟩ | ((with_reducible show WEach _ _); refine qag rfl ?_ ?_; conv => whnf) | refine st0 ⟨?_⟩ | ((with_reducible refine SplS.mk (fun h => ?_) (fun h => ?_)) <;> first | exact ctM | (subst h; conv => whnf) | (conv => whnf)) | refine stB ⟨?_⟩ ⟨?_⟩ | (refine Exists.intro ({k : Nat // StI ⟨w, mem, inn, code⟩ mm ⟨xo, xw, xn, xm, xk⟩ ⟨uo, uw, un, um, uk⟩ k}) (Exists.intro (fun ⟨k, hk⟩ => mkS Tryz.f156.ntmps [(4, .ptr 4 0), (5, .ptr 5 0), (6, .ptr 6 0), (7, .ptr 7 0), (10, .row 24), (26, .dat (.i mm.length)), (27, .dat (.i k))] [(4, .box [.dat (.i w), .dat (.i mem), .dat (.i inn), .dat (.seq .inss code)]), (5, .box [.dat (.i pc), .dat (.seq .terms rg), .dat (.seq .terms mm), .dat (.seq .ints sk), .dat (.i ic), .dat (.seq .terms ot), .dat (.i cd), .dat (.i sp), .dat (.seq .terms cn), .dat (.seq .ints tr)]), (6, .box [.dat (.i xo), .dat (.i xw), .dat (.i xn), .dat (.str xm), .dat (.seq .terms xk)]), (7, .box [.dat (.i uo), .dat (.i uw), .dat (.i un), .dat (.str um), .dat (.seq .terms uk)]), (24, .row 108 .terms (qfo ⟨w, mem, inn, code⟩ mm ⟨xo, xw, xn, xm, xk⟩ ⟨uo, uw, un, um, uk⟩ k ++ List.replicate (mm.length - k) zT) false)]) (Exists.intro (fun ⟨k, hk⟩ => mm.length - k) (Exists.intro ⟨0, ?_⟩ (And.intro (SubP.sub (σ := [(4, some 4), (5, some 5), (6, some 6), (7, some 7), (24, some 24)]) ⟨⟨rfl, rfl, rfl⟩, ⟨⟨rfl, rfl⟩, ⟨rfl, rfl⟩, ⟨rfl, rfl⟩, ⟨rfl, rfl⟩, rfl, (qab ?_), (qab ?_), trivial⟩, ⟨⟨(qaa ?_), (qaa ?_), (qaa ?_), (qaa ?_), trivial⟩, ⟨(qaa ?_), (qaa ?_), (qaa ?_), (qaa ?_), (qaa ?_), (qaa ?_), (qaa ?_), (qaa ?_), (qaa ?_), (qaa ?_), trivial⟩, ⟨(qaa ?_), (qaa ?_), (qaa ?_), (qaa ?_), (qaa ?_), trivial⟩, ⟨(qaa ?_), (qaa ?_), (qaa ?_), (qaa ?_), (qaa ?_), trivial⟩, ⟨⟨rfl, rfl⟩, ?_⟩, trivial⟩⟩) (fun ⟨k, hk⟩ => ?_))))); rotate_right; conv => whnf) | (refine Exists.intro (⟨k + 1, ?_⟩ : {k : Nat // StI ⟨w, mem, inn, code⟩ mm ⟨xo, xw, xn, xm, xk⟩ ⟨uo, uw, un, um, uk⟩ k}) (And.intro ?_ (SubP.sub (σ := [(4, some 4), (5, some 5), (6, some 6), (7, some 7), (24, some 24)]) ⟨⟨rfl, rfl, rfl⟩, ⟨⟨rfl, rfl⟩, ⟨rfl, rfl⟩, ⟨rfl, rfl⟩, ⟨rfl, rfl⟩, rfl, (qab ?_), (qab ?_), trivial⟩, ⟨⟨(qaa ?_), (qaa ?_), (qaa ?_), (qaa ?_), trivial⟩, ⟨(qaa ?_), (qaa ?_), (qaa ?_), (qaa ?_), (qaa ?_), (qaa ?_), (qaa ?_), (qaa ?_), (qaa ?_), (qaa ?_), trivial⟩, ⟨(qaa ?_), (qaa ?_), (qaa ?_), (qaa ?_), (qaa ?_), trivial⟩, ⟨(qaa ?_), (qaa ?_), (qaa ?_), (qaa ?_), (qaa ?_), trivial⟩, ⟨⟨rfl, rfl⟩, ?_⟩, trivial⟩⟩))) | ((with_reducible first | refine pcI (g := 135) ?_ | show Exists _); refine ⟨_, qal .., rfl, ?_⟩; rotate_right; conv => whnf) | ((with_reducible first | refine pcI (g := 152) ?_ | show Exists _); refine ⟨_, i_put (h1 := ?_) (hk := ?_) .., rfl, ?_⟩; rotate_right; conv => whnf) | ((with_reducible first | refine pcI (g := 181) ?_ | show Exists _); refine ⟨_, i_cellIs (hk := ?_) .., rfl, ?_⟩; rotate_right; conv => whnf) | (intro h; conv => whnf))
  all_goals repeat clear hK K1
  all_goals (have hM := qa8 hp; dsimp only at hM; try simp only [V.Term.eta] at *)
  all_goals first | exact True.intro | (with_reducible exact st_ok hk asmR asmR) | exact ⟨Nat.zero_le _, rfl⟩ | ((with_reducible show wordP _ _ = true); exact qe8 hp omG (by show _ < mem; omega)) | ((with_reducible show (_ : Nat) < _); (try dsimp only); first | omega | (simp only [List.length_append, List.length_replicate, st_len]; omega)) | (have q := hx.h rfl; dsimp only at q; omega) | ((with_reducible show (_ : Int) ≤ _); first | omega | (show mem * 64 ≤ _; omega) | (show mem ≤ (((2 ^ 63 - 1 : Nat)) : Int); omega)) | ((with_reducible show (_ : Int) < _); first | omega | (simp only [List.length_append, List.length_replicate, st_len]; omega)) | ((with_reducible show _ ≤ _); omega) | exact frB (congrArg Prod.snd (st_bad (p := ⟨w, mem, inn, code⟩) (x := ⟨xo, xw, xn, xm, xk⟩) asmR hm asmR asmR)) | exact congrArg (Dat.seq K.terms) (congrArg Prod.fst (st_bad (p := ⟨w, mem, inn, code⟩) (x := ⟨xo, xw, xn, xm, xk⟩) asmR hm asmR asmR)) | exact frB (congrArg Prod.snd (st_end (p := ⟨w, mem, inn, code⟩) (x := ⟨xo, xw, xn, xm, xk⟩) asmR hm hk asmR)) | (have e := st_end (p := ⟨w, mem, inn, code⟩) (x := ⟨xo, xw, xn, xm, xk⟩) (t := ⟨uo, uw, un, um, uk⟩) asmR hm hk asmR; rw [e, show mm.length - k = 0 by omega, List.replicate_zero, List.append_nil]; first | exact rfl | exact frB rfl) | (rw [st_bad (p := ⟨w, mem, inn, code⟩) (x := ⟨xo, xw, xn, xm, xk⟩) asmR hm asmR asmR]; exact rfl) | exact frB rfl | exact rfl | exact congrArg (Sigma.mk K.terms) (st_set asmR rfl).symm | exact congrArg (Sigma.mk K.terms) ((st_set asmR rfl).symm.trans (by rw [Int.toNat_natCast])) | (refine congrArg (Dat.int .i64) ?_; rw [qac omG omG]; rfl) | (refine congrArg Dat.i ?_; simp only [List.length_replicate]; omega) | (refine congrArg (Sigma.mk K.terms) ?_; rw [show mm.length - 0 = mem.toNat by omega]; rfl) | skip
end Vg
