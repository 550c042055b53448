/- Formulas that are drawn out of bytes: contracts. Condition: the bytes are not too many. -/
import Derived.Test.YtgbjdifegilniaaGreatDoorFtxH
namespace Vg
open Go Go.Proofs
set_option maxRecDepth 100000
set_option maxHeartbeats 40000000
attribute [local irreducible] IntKind.wrap
structure RoI (n i : Int) (k : Nat) (l : List Int) : Prop where
  hn : 1 ≤ n ∧ n ≤ 6
  hi : 0 ≤ i
  hk : (k : Int) ≤ n
  lit : ∀ x ∈ l, x ≠ 0 ∧ -(k : Int) ≤ x ∧ x ≤ k
  inc : ∀ j : Nat, j + 1 < l.length → (l.getD j 0).natAbs < (l.getD (j + 1) 0).natAbs
  len : l.length ≤ k
theorem ro_0 {n i : Int} (hn : 1 ≤ n ∧ n ≤ 6) (hi : 0 ≤ i) : RoI n i 0 [] := ⟨hn, hi, by omega, fun x h => (by cases h), fun j h => (by simp at h), Nat.le_refl _⟩
theorem ro_n {n i i' : Int} {k : Nat} {l : List Int} (h : RoI n i k l) (hk : (k : Int) + 1 ≤ n) (hi : 0 ≤ i') : RoI n i' (k + 1) l :=
  ⟨h.hn, hi, by omega, fun x hx => by have := h.lit x hx; omega, h.inc, Nat.le_succ_of_le h.len⟩
theorem qdj {l : List Int} {x : Int} (h : ∀ j : Nat, j + 1 < l.length → (l.getD j 0).natAbs < (l.getD (j + 1) 0).natAbs) (hx : ∀ y ∈ l, y.natAbs < x.natAbs) : ∀ j : Nat, j + 1 < (l ++ [x]).length → ((l ++ [x]).getD j 0).natAbs < ((l ++ [x]).getD (j + 1) 0).natAbs := fun j hj => by
  rw [List.length_append, List.length_singleton] at hj
  by_cases e : j + 1 < l.length
  · have q := h j e
    rw [List.getD_eq_getElem?_getD, List.getD_eq_getElem?_getD, List.getElem?_append_left omG, List.getElem?_append_left e, ← List.getD_eq_getElem?_getD, ← List.getD_eq_getElem?_getD]
    exact q
  · have e2 : j + 1 = l.length := by omega
    have hj2 : j < l.length := by omega
    rw [List.getD_eq_getElem?_getD, List.getD_eq_getElem?_getD, List.getElem?_append_left hj2, List.getElem?_append_right omG, show j + 1 - l.length = 0 from by omega, List.getElem?_eq_getElem hj2]
    exact hx _ (List.getElem_mem hj2)
theorem ro_p {n i i' : Int} {k : Nat} {l : List Int} {x : Int} (h : RoI n i k l) (hk : (k : Int) + 1 ≤ n) (hi : 0 ≤ i') (hx : x = (k : Int) + 1 ∨ x = -((k : Int) + 1)) : RoI n i' (k + 1) (l ++ [x]) :=
  ⟨h.hn, hi, by omega, fun y hy => by
    rcases List.mem_append.1 hy with q | q
    · have := h.lit y q; omega
    · rw [List.mem_singleton] at q; omega, qdj h.inc (fun y hy => by have := h.lit y hy; omega), by rw [List.length_append, List.length_singleton]; have := h.len; omega⟩
theorem ro_w {n i : Int} {k : Nat} {l : List Int} (h : RoI n i k l) (hk : (k : Int) + 1 ≤ n) : IntKind.i64.wrap (0 - ((k : Int) + 1)) = -((k : Int) + 1) := by
  have := h.hn
  rw [z1 omG omG]; omega
theorem ro_cl {n i : Int} {k : Nat} {l : List Int} (h : RoI n i k l) : ClQ n l := ⟨fun x hx => by have := h.lit x hx; have := h.hk; omega, h.inc, by have := h.len; have := h.hk; have := h.hn; omega⟩
theorem ro_m {n i : Int} {k : Nat} {l : List Int} {b : Nat} (h : RoI n i k l) (hb : b ≤ 1) : l.length + b ≤ maxLen := by
  have := h.len; have := h.hk; have := h.hn
  have hm : maxLen = 9223372036854775807 := rfl
  omega
theorem ro_b {n i : Int} {k : Nat} {l : List Int} {b : Nat} (h : RoI n i k l) (hb : b ≤ 1) : (l.length + b) * 8 ≤ 140737488355328 := by
  have := h.len; have := h.hk; have := h.hn
  omega
theorem qee (b : List Int) (i g n : Int) (hi : 0 ≤ i) (hl : b.length ≤ maxLen) (hn : 1 ≤ n ∧ n ≤ 6) : CallsG Tryz.prog 60 [.ptr 0 0, .dat (.i n)] [.box [.dat (.seq .bytes b), .dat (.i i), .dat (.i g)]] 1 (fun res B => ∃ (l : List Int) (i' g' : Int), res = .row 1 ∧ B = [.box [.dat (.seq .bytes b), .dat (.i i'), .dat (.i g')], .row 3 .ints l false] ∧ ClQ n l ∧ 0 ≤ i') := by
  refine oG Tryz.func60 ⟨?_⟩
  repeat' (first | ((with_reducible refine fun (K1 : KT) hK => ?_); (with_reducible refine j5 ?_ ?_); exact rfl; conv => whnf) | ((with_reducible refine fun (K1 : KT) hK => ?_); conv => whnf) | ((with_reducible show K1 _ _); subst hK; conv => whnf) | (with_reducible exact rfl) | ((with_reducible refine d7 (fun h => ?_) (fun h => ?_)) <;> first | contradiction | (subst h; conv => whnf) | (conv => whnf)) | ((with_reducible refine uA (fun h => ?_) (fun h => ?_)) <;> first | contradiction | (subst h; conv => whnf) | (conv => whnf)) | (refine ⟨(rfl : d4 _ = true), rfl, ?_⟩; conv => whnf) | (with_reducible refine fE ?_ ?_) | refine p3 ⟨?_⟩ ⟨?_⟩ | (refine Exists.intro ({x : (Int × Int) × Nat × List Int // RoI n x.1.1 x.2.1 x.2.2}) (Exists.intro (fun ⟨⟨⟨i, g⟩, k, l⟩, hI⟩ => x5 Tryz.f60.ntmps [(0, .ptr 900000 0), (1, .dat (.i n)), (5, .row 105), (6, .dat (.i ((k : Int) + 1)))] [(900000, .box [.dat (.seq .bytes b), .dat (.i i), .dat (.i g)]), (105, .row 3 .ints l false)]) (Exists.intro (fun ⟨⟨⟨i, g⟩, k, l⟩, hI⟩ => (n - k).toNat) (Exists.intro ⟨⟨⟨?_, ?_⟩, 0, []⟩, ?_⟩ (And.intro (SubP.sub (σ := [(900000, some 900000), (105, some 7)]) ⟨⟨rfl, rfl, rfl⟩, ⟨⟨rfl, rfl⟩, j0 ?_, rfl, j0 ?_, trivial⟩, ⟨⟨g0 ?_, g0 ?_, g0 ?_, trivial⟩, ⟨⟨rfl, rfl⟩, ?_⟩, trivial⟩⟩) (fun ⟨⟨⟨i, g⟩, k, l⟩, hI⟩ => ?_))))); rotate_right; conv => whnf) | (refine Exists.intro (⟨⟨⟨?_, ?_⟩, k + 1, ?_⟩, ?_⟩ : {x : (Int × Int) × Nat × List Int // RoI n x.1.1 x.2.1 x.2.2}) (And.intro ?_ (SubP.sub (σ := [(900000, some 900000), (105, some 22)]) ⟨⟨rfl, rfl, rfl⟩, ⟨⟨rfl, rfl⟩, j0 ?_, rfl, j0 ?_, trivial⟩, ⟨⟨g0 ?_, g0 ?_, g0 ?_, trivial⟩, ⟨⟨rfl, rfl⟩, ?_⟩, trivial⟩⟩))) | (refine Exists.intro (⟨⟨⟨?_, ?_⟩, k + 1, ?_⟩, ?_⟩ : {x : (Int × Int) × Nat × List Int // RoI n x.1.1 x.2.1 x.2.2}) (And.intro ?_ (SubP.sub (σ := [(900000, some 900000), (105, some 29)]) ⟨⟨rfl, rfl, rfl⟩, ⟨⟨rfl, rfl⟩, j0 ?_, rfl, j0 ?_, trivial⟩, ⟨⟨g0 ?_, g0 ?_, g0 ?_, trivial⟩, ⟨⟨rfl, rfl⟩, ?_⟩, trivial⟩⟩))) | (refine Exists.intro (⟨⟨⟨?_, ?_⟩, k + 1, ?_⟩, ?_⟩ : {x : (Int × Int) × Nat × List Int // RoI n x.1.1 x.2.1 x.2.2}) (And.intro ?_ (SubP.sub (σ := [(900000, some 900000), (105, some 105)]) ⟨⟨rfl, rfl, rfl⟩, ⟨⟨rfl, rfl⟩, j0 ?_, rfl, j0 ?_, trivial⟩, ⟨⟨g0 ?_, g0 ?_, g0 ?_, trivial⟩, ⟨⟨rfl, rfl⟩, ?_⟩, trivial⟩⟩))) | ((with_reducible refine j3 (g := 26) ?_); refine ⟨_, _, kC (hi := ?_) (hl := asmR) .., fun res B hRB => ?_⟩; rotate_right; obtain ⟨x, i', g', rfl, rfl, hx, hi'⟩ := hRB; conv => whnf) | ((with_reducible show d3 _ _ _ _ _ _); conv => whnf) | (intro h; conv => whnf))
  all_goals repeat clear hK K1
  all_goals first | (with_reducible assumption) | exact hI.hi | exact ro_p hI asmR asmR (.inl rfl) | exact ro_p hI asmR asmR (.inr (ro_w hI asmR)) | exact ro_n hI asmR asmR | exact ro_0 hn hi | exact ⟨_, _, _, rfl, rfl, ro_cl hI, hI.hi⟩ | exact ro_b hI (Nat.le_refl 1) | exact ro_m hI (Nat.le_refl 1) | ((with_reducible show (_ : Nat) < _); (dsimp only; omega)) | exact congrArg (Dat.int .i64) (z1 omG omG).symm | exact rfl | omega | skip
structure FoI (v i : Int) (m : Int) (cl : List (List Int)) : Prop where
  hv : 1 ≤ v ∧ v ≤ 6
  hi : 0 ≤ i
  hm : 0 ≤ m
  few : (cl.length : Int) + m ≤ 40
  cls : ∀ c, c ∈ cl → ClQ v c
theorem fo_q {v i m : Int} {cl : List (List Int)} (h : FoI v i m cl) : ForQ v cl := ⟨h.hv, by have := h.few; have := h.hm; omega, h.cls⟩
theorem fo_n {v i i' m : Int} {cl : List (List Int)} (h : FoI v i m cl) (hk : m > 0) (hi : 0 ≤ i') : FoI v i' (IntKind.i64.wrap (m - 1)) cl := by
  have q := h.few
  rw [z1 omG omG]
  exact ⟨h.hv, hi, by omega, by omega, h.cls⟩
theorem fo_p {v i i' m : Int} {cl : List (List Int)} {c : List Int} (h : FoI v i m cl) (hk : m > 0) (hi : 0 ≤ i') (hc : ClQ v c) : FoI v i' (IntKind.i64.wrap (m - 1)) (cl ++ [c]) := by
  have q := h.few
  rw [z1 omG omG]
  refine ⟨h.hv, hi, by omega, by rw [List.length_append, List.length_singleton]; omega, fun x hx => ?_⟩
  rcases List.mem_append.1 hx with e | e
  · exact h.cls x e
  · rw [List.mem_singleton] at e; rw [e]; exact hc
theorem fo_m {v i m : Int} {cl : List (List Int)} {c : List Int} (h : FoI v i m cl) : cl.length + [c].length ≤ maxLen := by
  have := h.few; have := h.hm
  have hm : maxLen = 9223372036854775807 := rfl
  show cl.length + 1 ≤ _
  omega
theorem fo_b {v i m : Int} {cl : List (List Int)} {c : List Int} (h : FoI v i m cl) : (cl.length + [c].length) * 24 ≤ 140737488355328 := by
  have := h.few; have := h.hm
  show (cl.length + 1) * 24 ≤ _
  omega
theorem fo_mu {v i m : Int} {cl : List (List Int)} (h : FoI v i m cl) (hk : m > 0) : (IntKind.i64.wrap (m - 1)).toNat < m.toNat := by
  have := h.few
  rw [z1 omG omG]; omega
theorem fo_z {v i m : Int} {cl : List (List Int)} (h : FoI v i m cl) (hm : ¬ m > 0) : FoI v i 0 cl := by
  have e : m = 0 := by have := h.hm; omega
  rw [← e]; exact h
theorem fo_0 {x i' most k : Int} (hm : 1 ≤ most ∧ most ≤ 6) (hx : 0 ≤ x ∧ x ≤ 255 ∧ (0 < most → x < most)) (hk : 0 ≤ k ∧ k ≤ 255 ∧ (0 < IntKind.i64.wrap (IntKind.i64.wrap (3 * IntKind.i64.wrap (1 + x)) + 2) → k < IntKind.i64.wrap (IntKind.i64.wrap (3 * IntKind.i64.wrap (1 + x)) + 2))) (hi : 0 ≤ i') : FoI (IntKind.i64.wrap (1 + x)) i' k [] := by
  have e1 : IntKind.i64.wrap (1 + x) = 1 + x := z1 omG omG
  rw [e1] at hk ⊢
  rw [z1 (n := 3 * (1 + x)) omG omG, z1 omG omG] at hk
  exact ⟨by omega, hi, by omega, by simp; omega, fun c h => by cases h⟩
theorem fo_p20 {v i m : Int} {cl : List (List Int)} {c : List Int} (h : FoI v i m cl) (q : (cl.length : Int) + m ≤ 20) (hk : m > 0) : ((cl ++ [c]).length : Int) + IntKind.i64.wrap (m - 1) ≤ 20 := by
  have := h.few
  rw [z1 omG omG, List.length_append, List.length_singleton]; omega
theorem fo_n20 {v i m : Int} {cl : List (List Int)} (h : FoI v i m cl) (q : (cl.length : Int) + m ≤ 20) (hk : m > 0) : (cl.length : Int) + IntKind.i64.wrap (m - 1) ≤ 20 := by
  have := h.few
  rw [z1 omG omG]; omega
theorem fo_z20 {v i m : Int} {cl : List (List Int)} (h : FoI v i m cl) (q : (cl.length : Int) + m ≤ 20) : (cl.length : Int) ≤ 20 := by
  have := h.hm; omega
theorem fo_020 {x most k : Int} (hm : 1 ≤ most ∧ most ≤ 6) (hx : 0 ≤ x ∧ x ≤ 255 ∧ (0 < most → x < most)) (hk : 0 ≤ k ∧ k ≤ 255 ∧ (0 < IntKind.i64.wrap (IntKind.i64.wrap (3 * IntKind.i64.wrap (1 + x)) + 2) → k < IntKind.i64.wrap (IntKind.i64.wrap (3 * IntKind.i64.wrap (1 + x)) + 2))) : ((([] : List (List Int)).length : Nat) : Int) + k ≤ 20 := by
  have e1 : IntKind.i64.wrap (1 + x) = 1 + x := z1 omG omG
  rw [e1, z1 (n := 3 * (1 + x)) omG omG, z1 omG omG] at hk
  simp; omega
structure FoJ (v i m : Int) (cl : List (List Int)) : Prop where
  I : FoI v i m cl
  q : (cl.length : Int) + m ≤ 20
theorem rY (b : List Int) (i g most : Int) (hi : 0 ≤ i) (hl : b.length ≤ maxLen) (hm : 1 ≤ most ∧ most ≤ 6) : CallsG Tryz.prog 24 [.ptr 0 0, .dat (.i most)] [.box [.dat (.seq .bytes b), .dat (.i i), .dat (.i g)]] 1 (fun res B => ∃ (v : Int) (cl : List (List Int)) (i' g' : Int), res = .agg [.dat (.i v), .row 1] ∧ B = [.box [.dat (.seq .bytes b), .dat (.i i'), .dat (.i g')], .row 47 .intss cl false] ∧ FoI v i' 0 cl ∧ (cl.length : Int) ≤ 20) := by
  refine oG Tryz.func24 ⟨?_⟩
  repeat' (first | ((with_reducible refine fun (K1 : KT) hK => ?_); (with_reducible refine j5 ?_ ?_); exact rfl; conv => whnf) | ((with_reducible refine Alt.l ?_); conv => whnf) | ((with_reducible refine fun (K1 : KT) hK => ?_); conv => whnf) | ((with_reducible show K1 _ _); subst hK; conv => whnf) | (with_reducible exact rfl) | ((with_reducible refine a8 ?_); conv => whnf) | ((with_reducible refine m9 ?_); conv => whnf) | ((with_reducible refine f9 ?_); conv => whnf) | ((with_reducible refine d7 (fun h => ?_) (fun h => ?_)) <;> first | contradiction | (subst h; conv => whnf) | (conv => whnf)) | ((with_reducible refine mD (fun h => ?_) (fun h => ?_)) <;> first | contradiction | (subst h; conv => whnf) | (conv => whnf)) | ((with_reducible refine vA (fun h => ?_) (fun h => ?_)) <;> first | (exact u2 h asmR) | (exact u2 asmR h) | (conv => whnf)) | (refine ⟨(rfl : d4 _ = true), rfl, ?_⟩; conv => whnf) | (with_reducible refine p9 ?_ ?_) | (with_reducible refine fE ?_ ?_) | refine p3 ⟨?_⟩ ⟨?_⟩ | (refine Exists.intro ({x : (Int × Int × Int) × Int × List (List Int) // FoJ x.1.1 x.1.2.1 x.2.1 x.2.2}) (Exists.intro (fun ⟨⟨⟨v, i, g⟩, m, cl⟩, hI⟩ => x5 Tryz.f24.ntmps [(0, .ptr 900000 0), (4, .ptr 4 0), (5, .ptr 5 0), (6, .dat (.i m))] [(900000, .box [.dat (.seq .bytes b), .dat (.i i), .dat (.i g)]), (4, .box [.cell, .cell]), (5, .box [.dat (.i v), .row 105]), (105, .row 47 .intss cl false)]) (Exists.intro (fun ⟨⟨⟨v, i, g⟩, m, cl⟩, hI⟩ => m.toNat) (Exists.intro ⟨⟨⟨?_, ?_, ?_⟩, ?_, []⟩, ?_⟩ (And.intro (SubP.sub (σ := [(900000, some 900000), (4, some 4), (5, some 5), (105, none)]) ⟨⟨rfl, rfl, rfl⟩, ⟨⟨rfl, rfl⟩, ⟨rfl, rfl⟩, ⟨rfl, rfl⟩, j0 ?_, trivial⟩, ⟨⟨g0 ?_, g0 ?_, g0 ?_, trivial⟩, ⟨rfl, rfl, trivial⟩, ⟨g0 ?_, rfl, trivial⟩, ?_, trivial⟩⟩) (fun ⟨⟨⟨v, i, g⟩, m, cl⟩, hI⟩ => ?_))))); rotate_right; conv => whnf) | (refine Exists.intro (⟨⟨⟨v, ?_, ?_⟩, ?_, ?_⟩, ?_⟩ : {x : (Int × Int × Int) × Int × List (List Int) // FoJ x.1.1 x.1.2.1 x.2.1 x.2.2}) (And.intro ?_ (SubP.sub (σ := [(900000, some 900000), (4, some 4), (5, some 5), (105, some 38)]) ⟨⟨rfl, rfl, rfl⟩, ⟨⟨rfl, rfl⟩, ⟨rfl, rfl⟩, ⟨rfl, rfl⟩, j0 ?_, trivial⟩, ⟨⟨g0 ?_, g0 ?_, g0 ?_, trivial⟩, ⟨rfl, rfl, trivial⟩, ⟨g0 ?_, rfl, trivial⟩, ⟨⟨rfl, rfl⟩, ?_⟩, trivial⟩⟩))) | (refine Exists.intro (⟨⟨⟨v, ?_, ?_⟩, ?_, ?_⟩, ?_⟩ : {x : (Int × Int × Int) × Int × List (List Int) // FoJ x.1.1 x.1.2.1 x.2.1 x.2.2}) (And.intro ?_ (SubP.sub (σ := [(900000, some 900000), (4, some 4), (5, some 5), (105, some 105)]) ⟨⟨rfl, rfl, rfl⟩, ⟨⟨rfl, rfl⟩, ⟨rfl, rfl⟩, ⟨rfl, rfl⟩, j0 ?_, trivial⟩, ⟨⟨g0 ?_, g0 ?_, g0 ?_, trivial⟩, ⟨rfl, rfl, trivial⟩, ⟨g0 ?_, rfl, trivial⟩, ⟨⟨rfl, rfl⟩, ?_⟩, trivial⟩⟩))) | ((with_reducible refine j3 (g := 26) ?_); refine ⟨_, _, kC (hi := ?_) (hl := asmR) .., fun res B hRB => ?_⟩; rotate_right; obtain ⟨x, i', g', rfl, rfl, hx, hi'⟩ := hRB; conv => whnf) | ((with_reducible refine j3 (g := 60) ?_); refine ⟨_, _, qee (hi := ?_) (hl := asmR) (hn := ?_) .., fun res B hRB => ?_⟩; rotate_right; obtain ⟨rl, i', g', rfl, rfl, hcl, hi'⟩ := hRB; conv => whnf) | ((with_reducible refine j3 (g := 22) ?_); refine ⟨_, _, iF (hi := ?_) (hl := asmR) .., fun res B hRB => ?_⟩; rotate_right; obtain ⟨x, i', g', rfl, rfl, hi'⟩ := hRB; conv => whnf) | ((with_reducible show d3 _ _ _ _ _ _); conv => whnf) | (intro h; conv => whnf))
  all_goals repeat clear hK K1
  all_goals first | (with_reducible assumption) | exact ⟨fo_p hI.I asmR asmR asmR, fo_p20 hI.I hI.q asmR⟩ | exact ⟨fo_n hI.I asmR asmR, fo_n20 hI.I hI.q asmR⟩ | exact ⟨fo_0 hm asmR asmR asmR, fo_020 hm asmR asmR⟩ | exact ⟨_, _, _, _, rfl, rfl, fo_z hI.I asmR, fo_z20 hI.I hI.q⟩ | exact fo_mu hI.I asmR | exact hI.I.hi | exact hI.I.hv.1 | exact hI.I.hv.2 | exact fo_b hI.I | exact fo_m hI.I | exact rfl | omega | skip
/-! ### a clause of two -/
structure GoC (a b : Int) (out : List Int) : Prop where
  mem : ∀ x, x ∈ out → x = a ∨ x = b
  inc : ∀ j : Nat, j + 1 < out.length → (out.getD j 0).natAbs < (out.getD (j + 1) 0).natAbs
  len : out.length ≤ 2
def kA (a b : Int) (k : Nat) (out : List Int) : Prop := (k = 0 ∧ out = []) ∨ (k = 1 ∧ out = [a]) ∨ (k = 2 ∧ GoC a b out)
structure AtI (out : List Int) (x : Int) (p : Nat) : Prop where
  le : p ≤ out.length
  lt : ∀ j : Nat, j < p → (out.getD j 0).natAbs < x.natAbs
theorem go_1 (a b : Int) : GoC a b [a] := ⟨fun x h => .inl (List.mem_singleton.1 h), fun j h => (by simp at h), by simp⟩
theorem go_2 {a b : Int} (h : a.natAbs < b.natAbs) : GoC a b [a, b] := ⟨fun x h => by simpa using h, fun j hj => by
  obtain rfl : j = 0 := by simp at hj; omega
  exact h, by simp⟩
theorem go_3 {a b : Int} (h : b.natAbs < a.natAbs) : GoC a b [b, a] := ⟨fun x h => by simp at h; omega, fun j hj => by
  obtain rfl : j = 0 := by simp at hj; omega
  exact h, by simp⟩
theorem at_0 (out : List Int) (x : Int) : AtI out x 0 := ⟨Nat.zero_le _, fun j h => absurd h (Nat.not_lt_zero j)⟩
theorem at_n {out : List Int} {x : Int} {p : Nat} (h : AtI out x p) (hp : (p : Int) < out.length) (hx : ((out.getD (p : Int).toNat K.ints.dflt).natAbs : Int) < (x.natAbs : Int)) : AtI out x (p + 1) :=
  ⟨by omega, fun j hj => by
    by_cases e : j = p
    · rw [Int.toNat_natCast] at hx
      rw [e]; exact_mod_cast hx
    · exact h.lt j omG⟩
theorem mc_sz {a b : Int} {k : Nat} {out : List Int} (h : kA a b k out) : out.length ≤ 2 := by
  rcases h with ⟨_, rfl⟩ | ⟨_, rfl⟩ | ⟨_, h⟩
  · simp
  · simp
  · exact h.len
theorem mc_e {a b : Int} {k p : Nat} {out : List Int} {x : Int} (hI : kA a b k out) (hk : (k : Int) < ([a, b].length : Nat)) (hx : [a, b].getD (k : Int).toNat K.ints.dflt = x) (hA : AtI out x p)
    (he : ¬ (p : Int) < out.length ∨ (¬ ((out.getD (p : Int).toNat K.ints.dflt).natAbs : Int) < (x.natAbs : Int) ∧ ¬ out.getD (p : Int).toNat K.ints.dflt = x ∧ ¬ out.getD (p : Int).toNat K.ints.dflt = -x)) : kA a b (k + 1) ((out.take p ++ [x]) ++ out.drop p) := by
  have hl := hA.le
  rcases hI with ⟨rfl, rfl⟩ | ⟨rfl, rfl⟩ | ⟨rfl, h⟩
  · obtain rfl : p = 0 := by simp at hl; exact hl
    have e : a = x := hx
    subst e
    exact .inr (.inl ⟨rfl, rfl⟩)
  · have e : b = x := hx
    subst e
    have hl2 : p ≤ 1 := hl
    refine .inr (.inr ⟨rfl, ?_⟩)
    by_cases e : p = 0
    · subst e
      rcases he with h | ⟨h1, h2, h3⟩
      · exact absurd (by simp) h
      · have g1 : ¬ (a.natAbs : Int) < (b.natAbs : Int) := h1
        have g2 : ¬ a = b := h2
        have g3 : ¬ a = -b := h3
        exact go_3 omG
    · obtain rfl : p = 1 := by omega
      exact go_2 (hA.lt 0 omG)
  · simp at hk
theorem mc_c {a b : Int} {k p : Nat} {out : List Int} {x : Int} (hI : kA a b k out) (hk : (k : Int) < ([a, b].length : Nat)) (hx : [a, b].getD (k : Int).toNat K.ints.dflt = x) (hp : (p : Int) < out.length) (h : out.getD (p : Int).toNat K.ints.dflt = x) : kA a b (k + 1) out := by
  rcases hI with ⟨rfl, rfl⟩ | ⟨rfl, rfl⟩ | ⟨rfl, h⟩
  · exact absurd hp (by simp)
  · exact .inr (.inr ⟨rfl, go_1 a b⟩)
  · simp at hk
theorem mc_end {a b : Int} {k : Nat} {out : List Int} (hI : kA a b k out) (hk : ¬ (k : Int) < ([a, b].length : Nat)) : GoC a b out := by
  rcases hI with ⟨rfl, rfl⟩ | ⟨rfl, rfl⟩ | ⟨rfl, h⟩
  · simp at hk
  · simp at hk
  · exact h
theorem qbx (x : Int) (h0 : -99999 ≤ x) (h1 : x ≤ 99999) : CallsV Tryz.prog 85 [.dat (.i x)] (.dat (.i (x.natAbs : Int))) := by
  refine oV Tryz.func85 ⟨?_⟩
  repeat' (first | ((with_reducible refine fun (K1 : KT) hK => ?_); (with_reducible refine j5 ?_ ?_); exact rfl; conv => whnf) | ((with_reducible refine fun (K1 : KT) hK => ?_); conv => whnf) | ((with_reducible show K1 _ _); subst hK; conv => whnf) | (with_reducible exact rfl) | ((with_reducible refine d7 (fun h => ?_) (fun h => ?_)) <;> first | contradiction | (subst h; conv => whnf) | (conv => whnf)) | (refine ⟨(rfl : d4 _ = true), rfl, ?_⟩; conv => whnf) | ((with_reducible show d3 _ _ _ _ _ _); conv => whnf) | (intro h; conv => whnf))
  all_goals repeat clear hK K1
  all_goals first | (refine congrArg (Dat.int .i64) ?_; first | omega | (rw [z1 omG omG]; omega)) | skip
section
variable {a b : Int} {k p : Nat} {out : List Int}
theorem mc_x (ha : a ≠ 0 ∧ -6 ≤ a ∧ a ≤ 6) (hb : b ≠ 0 ∧ -6 ≤ b ∧ b ≤ 6) (hk : (k : Int) < ([a, b].length : Nat)) : [a, b].getD (k : Int).toNat K.ints.dflt ≠ 0 ∧ -6 ≤ [a, b].getD (k : Int).toNat K.ints.dflt ∧ [a, b].getD (k : Int).toNat K.ints.dflt ≤ 6 := by
  have hk2 : k < 2 := by simp at hk; omega
  have : k = 0 ∨ k = 1 := by omega
  rcases this with rfl | rfl
  · exact ha
  · exact hb
theorem mc_o (ha : a ≠ 0 ∧ -6 ≤ a ∧ a ≤ 6) (hb : b ≠ 0 ∧ -6 ≤ b ∧ b ≤ 6) (hI : kA a b k out) (hp : (p : Int) < out.length) : -99999 ≤ out.getD (p : Int).toNat K.ints.dflt ∧ out.getD (p : Int).toNat K.ints.dflt ≤ 99999 := by
  have hm : out.getD (p : Int).toNat K.ints.dflt ∈ out := vY omG hp
  have : ∀ x ∈ out, x = a ∨ x = b := by
    rcases hI with ⟨_, rfl⟩ | ⟨_, rfl⟩ | ⟨_, h⟩
    · intro x h; cases h
    · intro x h; exact .inl (List.mem_singleton.1 h)
    · exact h.mem
  rcases this _ hm with e | e <;> rw [e] <;> omega
theorem mcE1 (hI : kA a b k out) (hk : (k : Int) < ([a, b].length : Nat)) (hA : AtI out ([a, b].getD (k : Int).toNat K.ints.dflt) p) (h : ¬ (p : Int) < out.length) : kA a b (k + 1) (((([] : List Int) ++ out.take (p : Int).toNat) ++ [[a, b].getD (k : Int).toNat K.ints.dflt]) ++ out.drop (p : Int).toNat) := by
  rw [Int.toNat_natCast, List.nil_append]
  exact mc_e hI hk rfl hA (.inl h)
theorem mcE3 (ha : a ≠ 0 ∧ -6 ≤ a ∧ a ≤ 6) (hb : b ≠ 0 ∧ -6 ≤ b ∧ b ≤ 6) (hI : kA a b k out) (hk : (k : Int) < ([a, b].length : Nat)) (hA : AtI out ([a, b].getD (k : Int).toNat K.ints.dflt) p) (h1 : ¬ ((out.getD (p : Int).toNat K.ints.dflt).natAbs : Int) < (([a, b].getD (k : Int).toNat K.ints.dflt).natAbs : Int)) (h2 : ¬ out.getD (p : Int).toNat K.ints.dflt = [a, b].getD (k : Int).toNat K.ints.dflt) (h3 : ¬ out.getD (p : Int).toNat K.ints.dflt = IntKind.i64.wrap (0 - [a, b].getD (k : Int).toNat K.ints.dflt)) : kA a b (k + 1) (((([] : List Int) ++ out.take (p : Int).toNat) ++ [[a, b].getD (k : Int).toNat K.ints.dflt]) ++ out.drop (p : Int).toNat) := by
  have q := mc_x ha hb hk
  rw [z1 omG omG] at h3
  have r := mc_e hI hk rfl hA (.inr ⟨h1, h2, by omega⟩)
  rw [Int.toNat_natCast, List.nil_append] at *
  exact r
theorem lG (hI : kA a b k out) {x : Int} : (((([] : List Int) ++ out.take (p : Int).toNat) ++ [x]).length + (out.drop (p : Int).toNat).length ≤ 3 ∧ (([] : List Int) ++ out.take (p : Int).toNat).length + [x].length ≤ 3) ∧ ([] : List Int).length + (out.take (p : Int).toNat).length ≤ 3 := by
  have q := mc_sz hI
  simp only [List.length_append, List.length_take, List.length_drop, List.length_singleton, List.length_nil, Int.toNat_natCast]
  omega
theorem le3m {n : Nat} (h : n ≤ 3) : n ≤ maxLen := Nat.le_trans h (by decide)
theorem le3b {n : Nat} (h : n ≤ 3) : n * 8 ≤ 140737488355328 := by omega
end
theorem qb5 (a b : Int) (ha : a ≠ 0 ∧ -6 ≤ a ∧ a ≤ 6) (hb : b ≠ 0 ∧ -6 ≤ b ∧ b ≤ 6) : CallsF Tryz.prog 59 [.dat (.seq .ints [a, b])] true (fun res B => (∃ out : List Int, res = .tup [.row 0, .dat (.bool true)] ∧ B = [.row 3 .ints out false] ∧ GoC a b out) ∨ (res = .tup [.nils, .dat (.bool false)] ∧ B = [])) := by
  refine oF Tryz.func59 ⟨?_⟩
  repeat' (first | ((with_reducible refine fun (K1 : KT) hK => ?_); (with_reducible refine j5 ?_ ?_); exact rfl; conv => whnf) | ((with_reducible refine Alt.r ?_); conv => whnf) | ((with_reducible refine fun (K1 : KT) hK => ?_); conv => whnf) | ((with_reducible show K1 _ _); subst hK; conv => whnf) | (with_reducible exact rfl) | ((with_reducible refine a8 ?_); conv => whnf) | ((with_reducible refine tB ?_); conv => whnf) | ((with_reducible refine m9 ?_); conv => whnf) | ((with_reducible refine f9 ?_); conv => whnf) | ((with_reducible refine d7 (fun h => ?_) (fun h => ?_)) <;> first | contradiction | (subst h; conv => whnf) | (conv => whnf)) | ((with_reducible refine uA (fun h => ?_) (fun h => ?_)) <;> first | contradiction | (subst h; conv => whnf) | (conv => whnf)) | ((with_reducible refine wF (fun h => ?_) (fun h => ?_)) <;> first | contradiction | (subst h; conv => whnf) | (conv => whnf)) | ((with_reducible refine e9 (fun h => ?_) (fun h => ?_)) <;> first | (exact u2 h asmR) | (exact u2 asmR h) | (conv => whnf)) | (refine ⟨(rfl : d4 _ = true), rfl, ?_⟩; conv => whnf) | (with_reducible refine q8 ?_ ?_) | (with_reducible refine p9 ?_ ?_) | (with_reducible refine fE ?_ ?_) | refine p3 ⟨?_⟩ ⟨?_⟩ | (refine Exists.intro ({p : Nat // AtI out ([a, b].getD ((k : Nat) : Int).toNat K.ints.dflt) p}) (Exists.intro (fun ⟨p, hA⟩ => x5 Tryz.f59.ntmps [(4, .row 104), (6, .dat (.i ([a, b].getD ((k : Nat) : Int).toNat K.ints.dflt))), (7, .dat (.i p)), (10, .dat (.seq .ints [a, b])), (11, .dat (.i ([a, b].length : Nat))), (12, .dat (.i k))] [(104, .row 3 .ints out false)]) (Exists.intro (fun ⟨p, hA⟩ => out.length - p) (Exists.intro ⟨0, at_0 _ _⟩ (And.intro (SubP.sub (σ := [(104, some 104)]) ⟨⟨rfl, rfl, rfl⟩, ⟨rfl, j0 ?_, j0 ?_, j0 ?_, j0 ?_, j0 ?_, trivial⟩, ⟨⟨⟨rfl, rfl⟩, ?_⟩, trivial⟩⟩) (fun ⟨p, hA⟩ => ?_))))); rotate_right; conv => whnf) | (refine Exists.intro (⟨p + 1, ?_⟩ : {p : Nat // AtI out ([a, b].getD ((k : Nat) : Int).toNat K.ints.dflt) p}) (And.intro ?_ (SubP.sub (σ := [(104, some 104)]) ⟨⟨rfl, rfl, rfl⟩, ⟨rfl, j0 ?_, j0 ?_, j0 ?_, j0 ?_, j0 ?_, trivial⟩, ⟨⟨⟨rfl, rfl⟩, ?_⟩, trivial⟩⟩))) | (refine Exists.intro ({x : Nat × List Int // kA a b x.1 x.2}) (Exists.intro (fun ⟨⟨k, out⟩, hI⟩ => x5 Tryz.f59.ntmps [(4, .row 104), (10, .dat (.seq .ints [a, b])), (11, .dat (.i ([a, b].length : Nat))), (12, .dat (.i k))] [(104, .row 3 .ints out false)]) (Exists.intro (fun ⟨⟨k, out⟩, hI⟩ => [a, b].length - k) (Exists.intro ⟨⟨0, []⟩, .inl ⟨rfl, rfl⟩⟩ (And.intro (SubP.sub (σ := [(104, some 9)]) ⟨⟨rfl, rfl, rfl⟩, ⟨rfl, j0 ?_, j0 ?_, j0 ?_, trivial⟩, ⟨⟨⟨rfl, rfl⟩, ?_⟩, trivial⟩⟩) (fun ⟨⟨k, out⟩, hI⟩ => ?_))))); rotate_right; conv => whnf) | (refine Exists.intro (⟨⟨k + 1, ?_⟩, ?_⟩ : {x : Nat × List Int // kA a b x.1 x.2}) (And.intro ?_ (SubP.sub (σ := [(104, some 77)]) ⟨⟨rfl, rfl, rfl⟩, ⟨rfl, j0 ?_, j0 ?_, j0 ?_, trivial⟩, ⟨⟨⟨rfl, rfl⟩, ?_⟩, trivial⟩⟩))) | (refine Exists.intro (⟨⟨k + 1, ?_⟩, ?_⟩ : {x : Nat × List Int // kA a b x.1 x.2}) (And.intro ?_ (SubP.sub (σ := [(104, some 104)]) ⟨⟨rfl, rfl, rfl⟩, ⟨rfl, j0 ?_, j0 ?_, j0 ?_, trivial⟩, ⟨⟨⟨rfl, rfl⟩, ?_⟩, trivial⟩⟩))) | ((with_reducible first | refine s0 (g := 56) ?_ | show Exists _); refine ⟨_, rE .., rfl, ?_⟩; rotate_right; conv => whnf) | ((with_reducible first | refine s0 (g := 85) ?_ | show Exists _); refine ⟨_, qbx (h0 := ?_) (h1 := ?_) .., rfl, ?_⟩; rotate_right; conv => whnf) | ((with_reducible show d3 _ _ _ _ _ _); conv => whnf) | (intro h; conv => whnf))
  all_goals repeat clear hK K1
  all_goals first | (with_reducible assumption) | exact .inr ⟨rfl, rfl⟩ | exact .inl ⟨_, rfl, rfl, mc_end hI asmR⟩ | exact at_n hA asmR asmR | exact mc_c hI asmR rfl asmR asmR | exact mcE1 hI asmR hA asmR | exact mcE3 ha hb hI asmR hA asmR asmR asmR | exact (mc_o ha hb hI asmR).1 | exact (mc_o ha hb hI asmR).2 | (have q := mc_x ha hb (show (k : Int) < ([a, b].length : Nat) by with_reducible assumption); omega) | exact le3m (lG hI (x := [a, b].getD (k : Int).toNat K.ints.dflt)).1.1 | exact le3m (lG hI (x := [a, b].getD (k : Int).toNat K.ints.dflt)).1.2 | exact le3m (lG hI (x := [a, b].getD (k : Int).toNat K.ints.dflt)).2 | exact le3b (lG hI (x := [a, b].getD (k : Int).toNat K.ints.dflt)).1.1 | exact le3b (lG hI (x := [a, b].getD (k : Int).toNat K.ints.dflt)).1.2 | exact le3b (lG hI (x := [a, b].getD (k : Int).toNat K.ints.dflt)).2 | exact congrArg (Dat.int .i64) (tA asmR asmR).symm | ((with_reducible show (_ : Nat) < _); (dsimp only; omega)) | exact Int.natCast_nonneg _ | (have q := hA.le; omega) | exact rfl | omega | skip
end Vg
