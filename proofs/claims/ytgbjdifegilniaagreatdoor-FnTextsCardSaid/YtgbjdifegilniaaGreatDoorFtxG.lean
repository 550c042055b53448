/- Terms that are drawn out of bytes: contracts. Condition: the bytes are not too many. -/
import Derived.Test.YtgbjdifegilniaaGreatDoorRet
import Derived.Test.YtgbjdifegilniaaGreatDoorFtxN
import Derived.Test.YtgbjdifegilniaaGreatDoorGivP
import Derived.Test.YtgbjdifegilniaaGreatDoorTermL
namespace Vg
open Go Go.Proofs
set_option maxRecDepth 100000
set_option maxHeartbeats 40000000
theorem qek {l : List ByteArray} {x : Int} (h0 : 0 ≤ x) (h : x < l.length) : l.getD x.toNat K.strs.dflt ∈ l := by
  have h' : x.toNat < l.length := by omega
  rw [List.getD_eq_getElem?_getD, List.getElem?_eq_getElem h']
  exact List.getElem_mem h'
theorem qeh (b : List Int) (i g : Int) (l : List ByteArray) (hi : 0 ≤ i) (hl : b.length ≤ maxLen) (h1 : 0 < l.length) : CallsG Tryz.prog 83 [.ptr 0 0, .row 1] [.box [.dat (.seq .bytes b), .dat (.i i), .dat (.i g)], .row 9 .strs l false] 2 (fun res B => ∃ (x : ByteArray) (i' g' : Int), res = .dat (.str x) ∧ B = [.box [.dat (.seq .bytes b), .dat (.i i'), .dat (.i g')], .row 9 .strs l false] ∧ x ∈ l ∧ 0 ≤ i') := by
  refine oG Tryz.func83 ⟨?_⟩
  repeat' (first | ((with_reducible refine fun (K1 : KT) hK => ?_); (with_reducible refine j5 ?_ ?_); exact rfl; conv => whnf) | ((with_reducible refine fun (K1 : KT) hK => ?_); conv => whnf) | ((with_reducible show K1 _ _); subst hK; conv => whnf) | (with_reducible exact rfl) | (refine ⟨(rfl : d4 _ = true), rfl, ?_⟩; conv => whnf) | (with_reducible refine q8 ?_ ?_) | refine p3 ⟨?_⟩ ⟨?_⟩ | ((with_reducible refine j3 (g := 26) ?_); refine ⟨_, _, kC (hi := ?_) (hl := asmR) .., fun res B hRB => ?_⟩; rotate_right; obtain ⟨x, i', g', rfl, rfl, hx, hi'⟩ := hRB; conv => whnf) | ((with_reducible show d3 _ _ _ _ _ _); conv => whnf) | (intro h; conv => whnf))
  all_goals repeat clear hK K1
  all_goals first | (with_reducible assumption) | exact ⟨_, _, _, rfl, rfl, qek omG omG, by assumption⟩ | omega | skip
theorem nm_sz {x : ByteArray} {w : Int} (h : x ∈ [(⟨#[97]⟩ : ByteArray), ⟨#[98]⟩, ⟨#[120]⟩]) (hw : 1 ≤ w ∧ w ≤ 14) : (x ++ s1 w).size ≤ 100 := by
  have q := fF (n := w) omG omG
  have e : x.size = 1 := by
    simp only [List.mem_cons, List.not_mem_nil, or_false] at h
    rcases h with rfl | rfl | rfl <;> rfl
  rw [y8]; omega
theorem nm_m {x : ByteArray} {w : Int} (h : x ∈ [(⟨#[97]⟩ : ByteArray), ⟨#[98]⟩, ⟨#[120]⟩]) (hw : 1 ≤ w ∧ w ≤ 14) : x.size + (s1 w).size ≤ maxLen := by
  have q := nm_sz h hw
  rw [y8] at q
  exact Nat.le_trans q (by decide)
theorem sY (b : List Int) (i g w : Int) (hi : 0 ≤ i) (hl : b.length ≤ maxLen) (hw : 1 ≤ w ∧ w ≤ 14) : CallsG Tryz.prog 55 [.ptr 0 0, .dat (.i w)] [.box [.dat (.seq .bytes b), .dat (.i i), .dat (.i g)]] 1 (fun res B => ∃ (nm : ByteArray) (i' g' : Int), res = .agg [.dat (.i 22), .dat (.i w), .dat (.i 0), .dat (.str nm), .nils] ∧ B = [.box [.dat (.seq .bytes b), .dat (.i i'), .dat (.i g')]] ∧ nm.size ≤ 100 ∧ 0 ≤ i') := by
  refine oG Tryz.func55 ⟨?_⟩
  repeat' (first | ((with_reducible refine fun (K1 : KT) hK => ?_); (with_reducible refine j5 ?_ ?_); exact rfl; conv => whnf) | ((with_reducible refine fun (K1 : KT) hK => ?_); conv => whnf) | ((with_reducible show K1 _ _); subst hK; conv => whnf) | (with_reducible exact rfl) | (refine ⟨(rfl : d4 _ = true), rfl, ?_⟩; conv => whnf) | refine p3 ⟨?_⟩ ⟨?_⟩ | ((with_reducible refine j3 (g := 83) ?_); refine ⟨_, _, qeh (hi := ?_) (hl := asmR) (h1 := ?_) .., fun res B hRB => ?_⟩; rotate_right; obtain ⟨nm1, i', g', rfl, rfl, hnm, hi'⟩ := hRB; conv => whnf) | ((with_reducible first | refine s0 (g := 84) ?_ | show Exists _); refine ⟨_, qb7 (h0 := ?_) (h1 := ?_) .., rfl, ?_⟩; rotate_right; conv => whnf) | ((with_reducible show d3 _ _ _ _ _ _); conv => whnf) | (intro h; conv => whnf))
  all_goals repeat clear hK K1
  all_goals first | (with_reducible assumption) | exact ⟨_, _, _, rfl, rfl, nm_sz asmR hw, by assumption⟩ | exact nm_m asmR hw | omega | decide | skip
def DrX (b : List Int) (X : AV) (cells : List AV) : Prop := ∃ (op w n : Int) (nm : ByteArray) (ks : List V.Term) (i' g' : Int), X = .agg [.dat (.i op), .dat (.i w), .dat (.i n), .dat (.str nm), .dat (.seq .terms ks)] ∧ cells = [.dat (.seq .bytes b), .dat (.i i'), .dat (.i g')] ∧ nmT ⟨op, w, n, nm, ks⟩ = true ∧ 0 ≤ i'
structure IHdr (m : Int) : Prop where
  call : ∀ (b : List Int) (i g w : Int), 0 ≤ i → b.length ≤ maxLen → (1 ≤ w ∧ w ≤ 14 - 2 * m) → CallsG Tryz.prog 19 [.ptr 0 0, .dat (.i w), .dat (.i m)] [.box [.dat (.seq .bytes b), .dat (.i i), .dat (.i g)]] 1
    (fun res B => ∃ cells, DrX b res cells ∧ B = [.box cells])
theorem ih_dr {m : Int} (ih : IHdr m) {b : List Int} {i g w : Int} (hi : 0 ≤ i) (hl : b.length ≤ maxLen) (hw : 1 ≤ w ∧ w ≤ 14 - 2 * m) : CallsG Tryz.prog 19 [.ptr 0 0, .dat (.i w), .dat (.i m)] [.box [.dat (.seq .bytes b), .dat (.i i), .dat (.i g)]] 1
    (fun res B => ∃ cells, DrX b res cells ∧ B = [.box cells]) := ih.call b i g w hi hl hw
theorem nm_0 (op w n : Int) {nm : ByteArray} (h : nm.size ≤ 100) : nmT ⟨op, w, n, nm, []⟩ = true := by
  rw [gG, Bool.and_eq_true]
  exact ⟨decide_eq_true (Nat.le_trans h (by decide)), rfl⟩
theorem nm_1 {op w n : Int} {t : V.Term} (h : nmT t = true) : nmT ⟨op, w, n, ByteArray.empty, [t]⟩ = true := by
  rw [gG, Bool.and_eq_true]
  refine ⟨decide_eq_true (Nat.zero_le _), ?_⟩
  show n9 [t] = true
  rw [n9, n9, h]; rfl
theorem nm_2 {op w n : Int} {t u : V.Term} (h : nmT t = true) (h2 : nmT u = true) : nmT ⟨op, w, n, ByteArray.empty, [t, u]⟩ = true := by
  rw [gG, Bool.and_eq_true]
  refine ⟨decide_eq_true (Nat.zero_le _), ?_⟩
  show n9 [t, u] = true
  rw [n9, n9, n9, h, h2]; rfl
theorem nm_3 {op w n : Int} {t u v : V.Term} (h : nmT t = true) (h2 : nmT u = true) (h3 : nmT v = true) : nmT ⟨op, w, n, ByteArray.empty, [t, u, v]⟩ = true := by
  rw [gG, Bool.and_eq_true]
  refine ⟨decide_eq_true (Nat.zero_le _), ?_⟩
  show n9 [t, u, v] = true
  rw [n9, n9, n9, n9, h, h2, h3]; rfl
structure IHsS (m : Nat) : Prop where
  call : ∀ (a : List V.Term), d5 a < m → CallsV Tryz.prog 34 [.dat (.seq .terms a), .dat (.seq .terms a)] (.dat (.bool true))
theorem ih_sS {m : Nat} (ih : IHsS m) {a : List V.Term} (hs : d5 a < m) : CallsV Tryz.prog 34 [.dat (.seq .terms a), .dat (.seq .terms a)] (.dat (.bool true)) := ih.call a hs
theorem l_sT0 (m : Nat) (op w n : Int) (nm : ByteArray) (ks : List V.Term) (ih : IHsS m) (hm : d5 ks < m) : CallsV Tryz.prog 11 [.agg [.dat (.i op), .dat (.i w), .dat (.i n), .dat (.str nm), .dat (.seq .terms ks)], .agg [.dat (.i op), .dat (.i w), .dat (.i n), .dat (.str nm), .dat (.seq .terms ks)]] (.dat (.bool true)) := by
  refine oV Tryz.func11 ⟨?_⟩
  repeat' (first | ((with_reducible refine fun (K1 : KT) hK => ?_); (with_reducible refine j5 ?_ ?_); exact rfl; conv => whnf) | ((with_reducible refine fun (K1 : KT) hK => ?_); conv => whnf) | ((with_reducible show K1 _ _); subst hK; conv => whnf) | (with_reducible exact rfl) | ((with_reducible refine a8 ?_); conv => whnf) | ((with_reducible refine tB ?_); conv => whnf) | ((with_reducible refine tN ?_); conv => whnf) | ((with_reducible refine vA (fun h => ?_) (fun h => ?_)) <;> first | (exact u2 h asmR) | (exact u2 asmR h) | (conv => whnf)) | (refine ⟨(rfl : d4 _ = true), rfl, ?_⟩; conv => whnf) | ((with_reducible first | refine s0 (g := 34) ?_ | show Exists _); refine ⟨_, ih_sS (ih := by assumption) (hs := ?_) .., rfl, ?_⟩; rotate_right; conv => whnf) | ((with_reducible show d3 _ _ _ _ _ _); conv => whnf) | (intro h; conv => whnf))
  all_goals repeat clear hK K1
  all_goals first | (with_reducible assumption) | contradiction | exact rfl | exact absurd rfl asmR | exact absurd rfl h | (exfalso; exact h rfl) | (exfalso; simp at h; done) | skip
structure IHsT (m : Nat) : Prop where
  call : ∀ (op w n : Int) (nm : ByteArray) (ks : List V.Term), sizeT ⟨op, w, n, nm, ks⟩ < m → CallsV Tryz.prog 11 [.agg [.dat (.i op), .dat (.i w), .dat (.i n), .dat (.str nm), .dat (.seq .terms ks)], .agg [.dat (.i op), .dat (.i w), .dat (.i n), .dat (.str nm), .dat (.seq .terms ks)]] (.dat (.bool true))
theorem ih_sT {m : Nat} (ih : IHsT m) {op w n : Int} {nm : ByteArray} {ks : List V.Term} (hs : sizeT ⟨op, w, n, nm, ks⟩ < m) : CallsV Tryz.prog 11 [.agg [.dat (.i op), .dat (.i w), .dat (.i n), .dat (.str nm), .dat (.seq .terms ks)], .agg [.dat (.i op), .dat (.i w), .dat (.i n), .dat (.str nm), .dat (.seq .terms ks)]] (.dat (.bool true)) := ih.call op w n nm ks hs
theorem l_sS0 (m : Nat) (a : List V.Term) (ih : IHsT m) (hm : d5 a < m) : CallsV Tryz.prog 34 [.dat (.seq .terms a), .dat (.seq .terms a)] (.dat (.bool true)) := by
  refine oV Tryz.func34 ⟨?_⟩
  repeat' (first | ((with_reducible refine fun (K1 : KT) hK => ?_); (with_reducible refine j5 ?_ ?_); exact rfl; conv => whnf) | ((with_reducible refine Alt.l ?_); conv => whnf) | ((with_reducible refine fun (K1 : KT) hK => ?_); conv => whnf) | ((with_reducible show K1 _ _); subst hK; conv => whnf) | (with_reducible exact rfl) | ((with_reducible refine a8 ?_); conv => whnf) | ((with_reducible refine m9 ?_); conv => whnf) | ((with_reducible refine f9 ?_); conv => whnf) | ((with_reducible refine d7 (fun h => ?_) (fun h => ?_)) <;> first | contradiction | (subst h; conv => whnf) | (conv => whnf)) | ((with_reducible refine mD (fun h => ?_) (fun h => ?_)) <;> first | contradiction | (subst h; conv => whnf) | (conv => whnf)) | ((with_reducible refine e9 (fun h => ?_) (fun h => ?_)) <;> first | (exact u2 h asmR) | (exact u2 asmR h) | (conv => whnf)) | (refine ⟨(rfl : d4 _ = true), rfl, ?_⟩; conv => whnf) | (with_reducible refine q8 ?_ ?_) | refine p3 ⟨?_⟩ ⟨?_⟩ | (refine Exists.intro ({k : Nat // k ≤ a.length}) (Exists.intro (fun ⟨k, hk⟩ => x5 Tryz.f34.ntmps [(0, .dat (.seq .terms a)), (1, .dat (.seq .terms a)), (7, .dat (.seq .terms a)), (8, .dat (.i a.length)), (9, .dat (.i k))] []) (Exists.intro (fun ⟨k, hk⟩ => a.length - k) (Exists.intro ⟨0, Nat.zero_le _⟩ (And.intro (SubP.sub (σ := []) ⟨⟨rfl, rfl, rfl⟩, ⟨j0 ?_, j0 ?_, j0 ?_, j0 ?_, j0 ?_, trivial⟩, trivial⟩) (fun ⟨k, hk⟩ => ?_))))); rotate_right; conv => whnf) | (refine Exists.intro (⟨k + 1, ?_⟩ : {k : Nat // k ≤ a.length}) (And.intro ?_ (SubP.sub (σ := []) ⟨⟨rfl, rfl, rfl⟩, ⟨j0 ?_, j0 ?_, j0 ?_, j0 ?_, j0 ?_, trivial⟩, trivial⟩))) | ((with_reducible show Exists _); refine Exists.intro _ (And.intro (ih_sT (ih := by assumption) (hs := ?_) ..) (And.intro rfl ?_)); rotate_right; conv => whnf) | ((with_reducible show d3 _ _ _ _ _ _); conv => whnf) | (intro h; conv => whnf))
  all_goals repeat clear hK K1
  all_goals first | (with_reducible assumption) | contradiction | exact sz_el (l := a) (k := k) (by assumption) hm | ((with_reducible show (_ : Nat) < _); (dsimp only; omega)) | omega | exact congrArg (Dat.int .i64) (tA asmR asmR).symm | (exfalso; omega) | exact rfl | (exfalso; simp at h; done) | (refine congrArg Dat.bool ?_; simp; done) | skip
theorem sT_of {m : Nat} (ih : IHsS m) : IHsT (m + 1) := ⟨fun op w n nm ks hs => l_sT0 m op w n nm ks ih (by rw [sizeT] at hs; omega)⟩
theorem rT : ∀ m, IHsS m
  | 0 => ⟨fun _ h => absurd h (Nat.not_lt_zero _)⟩
  | m + 1 => ⟨fun a hs => l_sS0 (m + 1) a (sT_of (rT m)) hs⟩
theorem l_same (op w n : Int) (nm : ByteArray) (ks : List V.Term) : CallsV Tryz.prog 11 [.agg [.dat (.i op), .dat (.i w), .dat (.i n), .dat (.str nm), .dat (.seq .terms ks)], .agg [.dat (.i op), .dat (.i w), .dat (.i n), .dat (.str nm), .dat (.seq .terms ks)]] (.dat (.bool true)) := (sT_of (rT (sizeT ⟨op, w, n, nm, ks⟩))).call op w n nm ks (Nat.lt_succ_self _)
theorem l_intsT (a : List Int) : CallsV Tryz.prog 16 [.dat (.seq .ints a), .dat (.seq .ints a)] (.dat (.bool true)) := by
  refine oV Tryz.func16 ⟨?_⟩
  repeat' (first | ((with_reducible refine fun (K1 : KT) hK => ?_); (with_reducible refine j5 ?_ ?_); exact rfl; conv => whnf) | ((with_reducible refine fun (K1 : KT) hK => ?_); conv => whnf) | ((with_reducible show K1 _ _); subst hK; conv => whnf) | (with_reducible exact rfl) | ((with_reducible refine a8 ?_); conv => whnf) | ((with_reducible refine m9 ?_); conv => whnf) | ((with_reducible refine f9 ?_); conv => whnf) | ((with_reducible refine d7 (fun h => ?_) (fun h => ?_)) <;> first | contradiction | (subst h; conv => whnf) | (conv => whnf)) | ((with_reducible refine mD (fun h => ?_) (fun h => ?_)) <;> first | contradiction | (subst h; conv => whnf) | (conv => whnf)) | ((with_reducible refine pE (fun h => ?_) (fun h => ?_)) <;> first | contradiction | (subst h; conv => whnf) | (conv => whnf)) | (refine ⟨(rfl : d4 _ = true), rfl, ?_⟩; conv => whnf) | (with_reducible refine q8 ?_ ?_) | refine p3 ⟨?_⟩ ⟨?_⟩ | (refine Exists.intro ({k : Nat // k ≤ a.length}) (Exists.intro (fun ⟨k, hk⟩ => x5 Tryz.f16.ntmps [(0, .dat (.seq .ints a)), (1, .dat (.seq .ints a)), (7, .dat (.seq .ints a)), (8, .dat (.i a.length)), (9, .dat (.i k))] []) (Exists.intro (fun ⟨k, hk⟩ => a.length - k) (Exists.intro ⟨0, Nat.zero_le _⟩ (And.intro (SubP.sub (σ := []) ⟨⟨rfl, rfl, rfl⟩, ⟨j0 ?_, j0 ?_, j0 ?_, j0 ?_, j0 ?_, trivial⟩, trivial⟩) (fun ⟨k, hk⟩ => ?_))))); rotate_right; conv => whnf) | (refine Exists.intro (⟨k + 1, ?_⟩ : {k : Nat // k ≤ a.length}) (And.intro ?_ (SubP.sub (σ := []) ⟨⟨rfl, rfl, rfl⟩, ⟨j0 ?_, j0 ?_, j0 ?_, j0 ?_, j0 ?_, trivial⟩, trivial⟩))) | ((with_reducible show d3 _ _ _ _ _ _); conv => whnf) | (intro h; conv => whnf))
  all_goals repeat clear hK K1
  all_goals first | (with_reducible assumption) | contradiction | ((with_reducible show (_ : Nat) < _); (dsimp only; omega)) | omega | exact congrArg (Dat.int .i64) (tA asmR asmR).symm | (exfalso; omega) | exact rfl | (exfalso; exact h rfl) | (exfalso; simp at h; done) | (refine congrArg Dat.bool ?_; simp; done) | skip
end Vg
